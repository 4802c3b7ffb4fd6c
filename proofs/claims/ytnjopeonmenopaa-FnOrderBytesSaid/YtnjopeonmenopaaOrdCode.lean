/- Contracts: orders as bytes, and back, in the program and in the reference. No condition. -/
import Derived.Test.YtnjopeonmenopaaOrd
import Derived.Test.YtnjopeonmenopaaWord
namespace Go.Proofs.Ytnjopeonmenopaa
open Go.RowKit

def encOrd (k t a b : Int) : List UInt8 := if ordOk k t a b then pwS k 1 ++ pwS t 3 ++ pwS a 1 ++ pwS b 2 else []
theorem encodeOrder_any (k t a b : Int) (w : World) :
    Calls Try.prog 28 #[.agg #[.int .i64 k, .int .i64 t, .int .i64 a, .int .i64 b]] w fun e w' => e = .returned (.string ⟨(encOrd k t a b).toArray⟩) ∧ Below w.heap.size w w' := by
  cases h : ordOk k t a b
  · have hc := Lib.hid (show encOrd k t a b = [] by unfold encOrd; rw [h]; rfl)
    have hok := fun w => orderOk_any k t a b w
    simp only [h] at hok
    go_enter Try.func28, Try.ntmps28
    go_wp2_with fail
    refine (hok _).mono ?_
    rintro e w1 ⟨rfl, hb1⟩
    go_wp2
    go_ret
    exact ⟨ret_str hc.out.symm, ((Below.refl _ _).alloc (Nat.le_refl _) _).trans (hb1.mono (by simp))⟩
  · have hc := Lib.hid (show encOrd k t a b = pwS k 1 ++ pwS t 3 ++ pwS a 1 ++ pwS b 2 by unfold encOrd; rw [h]; rfl)
    have hok := fun w => orderOk_any k t a b w
    obtain ⟨b1, b2, b3, b4⟩ := ordOk_parts h
    simp only [h] at hok
    go_enter Try.func28, Try.ntmps28
    go_wp2_with fail
    refine (hok _).mono ?_
    rintro e w1 ⟨rfl, hb1⟩
    obtain ⟨hc1, hf1⟩ := bcell hb1
    have hz1 := hb1.size
    simp only [World.size_alloc] at hz1
    have hl1 : w.heap.size < w1.heap.size := by omega
    have hB1 := ((Below.refl _ _).alloc (Nat.le_refl _) _).trans (hb1.mono (by simp))
    go_wp2_with fail
    have HK : Hid (∀ wx, Below w1.heap.size w1 wx → (Below w1.heap.size w1 wx ∧ wx.cell? ⟨w.heap.size, 0, none⟩ = some (.int .i64 k) ∧ wx.cell? ⟨w.heap.size, 1, none⟩ = some (.int .i64 t) ∧ wx.cell? ⟨w.heap.size, 2, none⟩ = some (.int .i64 a) ∧ wx.cell? ⟨w.heap.size, 3, none⟩ = some (.int .i64 b))) := Lib.hid (fun wx h => ⟨h, (h.cell (p := ⟨w.heap.size, 0, none⟩) (by simp; try omega)).trans (by simp [go_sem, hc1]), (h.cell (p := ⟨w.heap.size, 1, none⟩) (by simp; try omega)).trans (by simp [go_sem, hc1]), (h.cell (p := ⟨w.heap.size, 2, none⟩) (by simp; try omega)).trans (by simp [go_sem, hc1]), (h.cell (p := ⟨w.heap.size, 3, none⟩) (by simp; try omega)).trans (by simp [go_sem, hc1])⟩)
    go_region_held3 (fun wx => Below w1.heap.size w1 wx ∧ wx.cell? ⟨w.heap.size, 0, none⟩ = some (.int .i64 k) ∧ wx.cell? ⟨w.heap.size, 1, none⟩ = some (.int .i64 t) ∧ wx.cell? ⟨w.heap.size, 2, none⟩ = some (.int .i64 a) ∧ wx.cell? ⟨w.heap.size, 3, none⟩ = some (.int .i64 b)) (first | exact HK.out _ (Below.refl _ _).drew | exact HK.out _ (below_step (And.left ‹_›) ‹_›)) (first | (go_at_call 55; refine (putWord_any _ _ _ (by omega) (by omega)).mono ?_; rintro e w' ⟨rfl, hb7⟩))
    all_goals
      have hH := And.left ‹_ ∧ _›
      go_wp2
      go_ret
      exact ⟨ret_app (by rw [hc.out, ByteArray.mk_append_mk]; rfl), below_step hB1 hH⟩
theorem sEncodeOrder_any (k t a b : Int) (w : World) :
    Calls Try.prog 27 #[.agg #[.int .i64 k, .int .i64 t, .int .i64 a, .int .i64 b]] w fun e w' => e = .returned (.string ⟨(encOrd k t a b).toArray⟩) ∧ Below w.heap.size w w' := by
  cases h : ordOk k t a b
  · have hc := Lib.hid (show encOrd k t a b = [] by unfold encOrd; rw [h]; rfl)
    have hok := fun w => sOrderOk_any k t a b w
    simp only [h] at hok
    go_enter Try.func27, Try.ntmps27
    go_wp2_with fail
    refine (hok _).mono ?_
    rintro e w1 ⟨rfl, hb1⟩
    go_wp2
    go_ret
    exact ⟨ret_str hc.out.symm, ((Below.refl _ _).alloc (Nat.le_refl _) _).trans (hb1.mono (by simp))⟩
  · have hc := Lib.hid (show encOrd k t a b = pwS k 1 ++ pwS t 3 ++ pwS a 1 ++ pwS b 2 by unfold encOrd; rw [h]; rfl)
    have hok := fun w => sOrderOk_any k t a b w
    obtain ⟨b1, b2, b3, b4⟩ := ordOk_parts h
    simp only [h] at hok
    go_enter Try.func27, Try.ntmps27
    go_wp2_with fail
    refine (hok _).mono ?_
    rintro e w1 ⟨rfl, hb1⟩
    obtain ⟨hc1, hf1⟩ := bcell hb1
    have hz1 := hb1.size
    simp only [World.size_alloc] at hz1
    have hl1 : w.heap.size < w1.heap.size := by omega
    have hB1 := ((Below.refl _ _).alloc (Nat.le_refl _) _).trans (hb1.mono (by simp))
    go_wp2_with fail
    have HK : Hid (∀ wx, Below w1.heap.size w1 wx → (Below w1.heap.size w1 wx ∧ wx.cell? ⟨w.heap.size, 0, none⟩ = some (.int .i64 k) ∧ wx.cell? ⟨w.heap.size, 1, none⟩ = some (.int .i64 t) ∧ wx.cell? ⟨w.heap.size, 2, none⟩ = some (.int .i64 a) ∧ wx.cell? ⟨w.heap.size, 3, none⟩ = some (.int .i64 b))) := Lib.hid (fun wx h => ⟨h, (h.cell (p := ⟨w.heap.size, 0, none⟩) (by simp; try omega)).trans (by simp [go_sem, hc1]), (h.cell (p := ⟨w.heap.size, 1, none⟩) (by simp; try omega)).trans (by simp [go_sem, hc1]), (h.cell (p := ⟨w.heap.size, 2, none⟩) (by simp; try omega)).trans (by simp [go_sem, hc1]), (h.cell (p := ⟨w.heap.size, 3, none⟩) (by simp; try omega)).trans (by simp [go_sem, hc1])⟩)
    go_region_held3 (fun wx => Below w1.heap.size w1 wx ∧ wx.cell? ⟨w.heap.size, 0, none⟩ = some (.int .i64 k) ∧ wx.cell? ⟨w.heap.size, 1, none⟩ = some (.int .i64 t) ∧ wx.cell? ⟨w.heap.size, 2, none⟩ = some (.int .i64 a) ∧ wx.cell? ⟨w.heap.size, 3, none⟩ = some (.int .i64 b)) (first | exact HK.out _ (Below.refl _ _).drew | exact HK.out _ (below_step (And.left ‹_›) ‹_›)) (first | (go_at_call 54; refine (sPutWord_any _ _ _ (by omega) (by omega)).mono ?_; rintro e w' ⟨rfl, hb7⟩))
    all_goals
      have hH := And.left ‹_ ∧ _›
      go_wp2
      go_ret
      exact ⟨ret_app (by rw [hc.out, ByteArray.mk_append_mk]; rfl), below_step hB1 hH⟩

/-- What seven bytes say. -/
def oK (l : List UInt8) : Int := nth l 0
def oT (l : List UInt8) : Int := (nth l 1 * 256 + nth l (1 + 1)) * 256 + nth l (1 + 2)
def oA (l : List UInt8) : Int := nth l 4
def oB (l : List UInt8) : Int := nth l 5 * 256 + nth l (5 + 1)
def dOk (l : List UInt8) : Bool := decide (l.length = 7) && ordOk (oK l) (oT l) (oA l) (oB l)
def ordV (ok : Bool) (k t a b : Int) : Value := .tuple #[.agg #[.int .i64 (if ok then k else 0), .int .i64 (if ok then t else 0), .int .i64 (if ok then a else 0), .int .i64 (if ok then b else 0)], .bool ok]
def dOrdV (l : List UInt8) : Value := ordV (dOk l) (oK l) (oT l) (oA l) (oB l)

theorem decodeOrder_any (l : List UInt8) (w : World) (hl : Txt l) :
    Calls Try.prog 30 #[.string ⟨l.toArray⟩] w fun e w' => e = .returned (dOrdV l) ∧ Below w.heap.size w w' := by
  unfold Txt at hl
  by_cases h7 : l.length = 7
  · have hd : dOk l = ordOk (oK l) (oT l) (oA l) (oB l) := by unfold dOk; rw [decide_eq_true h7]; rfl
    have i0 : (0 : Int) < l.length := by omega
    have i4 : (4 : Int) < l.length := by omega
    have g3 : ∀ w, Calls Try.prog 57 #[.string ⟨l.toArray⟩, .int .i64 1, .int .i64 3] w fun e w' => e = .returned (.tuple #[.int .i64 (oT l), .bool true]) ∧ w = w' := fun w => getWord3 l 1 w (by omega) (by omega) hl
    have g2 : ∀ w, Calls Try.prog 57 #[.string ⟨l.toArray⟩, .int .i64 5, .int .i64 2] w fun e w' => e = .returned (.tuple #[.int .i64 (oB l), .bool true]) ∧ w = w' := fun w => getWord2 l 5 w (by omega) (by omega) hl
    have hv : dOrdV l = ordV (dOk l) (nth l 0) (oT l) (nth l 4) (oB l) := rfl
    have hd' : dOk l = ordOk (nth l 0) (oT l) (nth l 4) (oB l) := hd
    clear hd
    generalize oT l = t at *
    generalize oB l = b at *
    generalize dOk l = ok at *
    have hok := fun w => orderOk_any (nth l 0) t (nth l 4) b w
    rw [← hd'] at hok
    clear hd'
    cases ok
    · have hc := Lib.hid (show dOrdV l = ordV false 0 0 0 0 from hv)
      clear hv
      go_enter Try.func30, Try.ntmps30
      go_wp2_with fail
      refine (g3 _).mono ?_
      rintro e w1 ⟨rfl, rfl⟩
      go_wp2_with fail
      refine (g2 _).mono ?_
      rintro e w1 ⟨rfl, rfl⟩
      go_wp2_with fail
      go_region
      go_wp2_with fail
      refine (hok _).mono ?_
      rintro e w2 ⟨rfl, hb2⟩
      obtain ⟨hc2, hf2⟩ := bcell hb2
      have hz2 := hb2.size
      simp only [World.size_alloc, World.size_drew] at hz2
      have hl1 : w.heap.size < w2.heap.size := by omega
      have hl2 : w.heap.size + 1 < w2.heap.size := by omega
      have x0 : w2.cell? ⟨w.heap.size, 0, none⟩ = some (.int .i64 0) := by simp [hc2, go_sem]
      have x1 : w2.cell? ⟨w.heap.size, 1, none⟩ = some (.int .i64 0) := by simp [hc2, go_sem]
      have x2 : w2.cell? ⟨w.heap.size, 2, none⟩ = some (.int .i64 0) := by simp [hc2, go_sem]
      have x3 : w2.cell? ⟨w.heap.size, 3, none⟩ = some (.int .i64 0) := by simp [hc2, go_sem]
      have hB2 := ((((Below.refl _ _).alloc (Nat.le_refl _) _).alloc (by simp) _).drew).trans (hb2.mono (by simp; omega))
      go_wp2
      refine bodyPost_ret (v := ordV false (nth l 0) t (nth l 4) b) (by simp [ordV, results, Try.results30, go_sem, ↓cell_some, x0, x1, x2, x3]) rfl ⟨by first | (rw [hc.out]; done) | (rw [hc.out]; rfl), ?_⟩
      repeat (refine Below.setCell ?_ (by simp) _)
      exact hB2
    · have hc := Lib.hid (show dOrdV l = ordV true (nth l 0) t (nth l 4) b from hv)
      clear hv
      go_enter Try.func30, Try.ntmps30
      go_wp2_with fail
      refine (g3 _).mono ?_
      rintro e w1 ⟨rfl, rfl⟩
      go_wp2_with fail
      refine (g2 _).mono ?_
      rintro e w1 ⟨rfl, rfl⟩
      go_wp2_with fail
      go_region
      go_wp2_with fail
      refine (hok _).mono ?_
      rintro e w2 ⟨rfl, hb2⟩
      obtain ⟨hc2, hf2⟩ := bcell hb2
      have hz2 := hb2.size
      simp only [World.size_alloc, World.size_drew] at hz2
      have hl1 : w.heap.size < w2.heap.size := by omega
      have hl2 : w.heap.size + 1 < w2.heap.size := by omega
      have x0 : w2.cell? ⟨w.heap.size, 0, none⟩ = some (.int .i64 0) := by simp [hc2, go_sem]
      have x1 : w2.cell? ⟨w.heap.size, 1, none⟩ = some (.int .i64 0) := by simp [hc2, go_sem]
      have x2 : w2.cell? ⟨w.heap.size, 2, none⟩ = some (.int .i64 0) := by simp [hc2, go_sem]
      have x3 : w2.cell? ⟨w.heap.size, 3, none⟩ = some (.int .i64 0) := by simp [hc2, go_sem]
      have hB2 := ((((Below.refl _ _).alloc (Nat.le_refl _) _).alloc (by simp) _).drew).trans (hb2.mono (by simp; omega))
      go_wp2
      refine bodyPost_ret (v := ordV true (nth l 0) t (nth l 4) b) (by simp [ordV, results, Try.results30, go_sem, ↓cell_some, x0, x1, x2, x3]) rfl ⟨by first | (rw [hc.out]; done) | (rw [hc.out]; rfl), ?_⟩
      repeat (refine Below.setCell ?_ (by simp) _)
      exact hB2
  · have hd : dOk l = false := by unfold dOk; rw [decide_eq_false h7]; rfl
    have hc := Lib.hid (show dOrdV l = ordV false 0 0 0 0 by unfold dOrdV; rw [hd]; rfl)
    have i7 : ((l.length : Int) != 7) = true := by simp; omega
    clear hd
    go_enter Try.func30, Try.ntmps30
    go_wp2
    refine bodyPost_ret (v := ordV false 0 0 0 0) (by simp [ordV, results, Try.results30, go_sem]) rfl ⟨by rw [hc.out], ?_⟩
    repeat (first | exact Below.refl _ _ | refine Below.setCell ?_ (by simp <;> omega) _ | refine Below.alloc ?_ (by simp <;> omega) _)
theorem sDecodeOrder_any (l : List UInt8) (w : World) (hl : Txt l) :
    Calls Try.prog 29 #[.string ⟨l.toArray⟩] w fun e w' => e = .returned (dOrdV l) ∧ Below w.heap.size w w' := by
  unfold Txt at hl
  by_cases h7 : l.length = 7
  · have hd : dOk l = ordOk (oK l) (oT l) (oA l) (oB l) := by unfold dOk; rw [decide_eq_true h7]; rfl
    have g0 : ∀ w, Calls Try.prog 56 #[.string ⟨l.toArray⟩, .int .i64 0, .int .i64 1] w fun e w' => e = .returned (.tuple #[.int .i64 (nth l 0), .bool true]) ∧ w = w' := fun w => sGetWord1 l 0 w (by omega) (by omega) hl
    have g4 : ∀ w, Calls Try.prog 56 #[.string ⟨l.toArray⟩, .int .i64 4, .int .i64 1] w fun e w' => e = .returned (.tuple #[.int .i64 (nth l 4), .bool true]) ∧ w = w' := fun w => sGetWord1 l 4 w (by omega) (by omega) hl
    have g3 : ∀ w, Calls Try.prog 56 #[.string ⟨l.toArray⟩, .int .i64 1, .int .i64 3] w fun e w' => e = .returned (.tuple #[.int .i64 (oT l), .bool true]) ∧ w = w' := fun w => sGetWord3 l 1 w (by omega) (by omega) hl
    have g2 : ∀ w, Calls Try.prog 56 #[.string ⟨l.toArray⟩, .int .i64 5, .int .i64 2] w fun e w' => e = .returned (.tuple #[.int .i64 (oB l), .bool true]) ∧ w = w' := fun w => sGetWord2 l 5 w (by omega) (by omega) hl
    have hv : dOrdV l = ordV (dOk l) (nth l 0) (oT l) (nth l 4) (oB l) := rfl
    have hd' : dOk l = ordOk (nth l 0) (oT l) (nth l 4) (oB l) := hd
    clear hd
    generalize oT l = t at *
    generalize oB l = b at *
    generalize dOk l = ok at *
    have hok := fun w => sOrderOk_any (nth l 0) t (nth l 4) b w
    rw [← hd'] at hok
    clear hd'
    cases ok
    · have hc := Lib.hid (show dOrdV l = ordV false 0 0 0 0 from hv)
      clear hv
      go_enter Try.func29, Try.ntmps29
      go_wp2_with fail
      refine (g0 _).mono ?_
      rintro e w1 ⟨rfl, rfl⟩
      go_wp2_with fail
      refine (g3 _).mono ?_
      rintro e w1 ⟨rfl, rfl⟩
      go_wp2_with fail
      refine (g4 _).mono ?_
      rintro e w1 ⟨rfl, rfl⟩
      go_wp2_with fail
      refine (g2 _).mono ?_
      rintro e w1 ⟨rfl, rfl⟩
      go_wp2_with fail
      refine (hok _).mono ?_
      rintro e w2 ⟨rfl, hb2⟩
      obtain ⟨hc2, hf2⟩ := bcell hb2
      have hz2 := hb2.size
      simp only [World.size_alloc] at hz2
      have hl1 : w.heap.size < w2.heap.size := by omega
      have hl2 : w.heap.size + 1 < w2.heap.size := by omega
      have x0 : w2.cell? ⟨w.heap.size, 0, none⟩ = some (.int .i64 0) := by simp [hc2, go_sem]
      have x1 : w2.cell? ⟨w.heap.size, 1, none⟩ = some (.int .i64 0) := by simp [hc2, go_sem]
      have x2 : w2.cell? ⟨w.heap.size, 2, none⟩ = some (.int .i64 0) := by simp [hc2, go_sem]
      have x3 : w2.cell? ⟨w.heap.size, 3, none⟩ = some (.int .i64 0) := by simp [hc2, go_sem]
      have hB2 := ((((Below.refl _ _).alloc (Nat.le_refl _) _).alloc (by simp) _)).trans (hb2.mono (by simp; omega))
      go_wp2
      refine bodyPost_ret (v := ordV false (nth l 0) t (nth l 4) b) (by simp [ordV, results, Try.results29, go_sem, ↓cell_some, x0, x1, x2, x3]) rfl ⟨by first | (rw [hc.out]; done) | (rw [hc.out]; rfl), ?_⟩
      repeat (refine Below.setCell ?_ (by simp) _)
      exact hB2
    · have hc := Lib.hid (show dOrdV l = ordV true (nth l 0) t (nth l 4) b from hv)
      clear hv
      go_enter Try.func29, Try.ntmps29
      go_wp2_with fail
      refine (g0 _).mono ?_
      rintro e w1 ⟨rfl, rfl⟩
      go_wp2_with fail
      refine (g3 _).mono ?_
      rintro e w1 ⟨rfl, rfl⟩
      go_wp2_with fail
      refine (g4 _).mono ?_
      rintro e w1 ⟨rfl, rfl⟩
      go_wp2_with fail
      refine (g2 _).mono ?_
      rintro e w1 ⟨rfl, rfl⟩
      go_wp2_with fail
      refine (hok _).mono ?_
      rintro e w2 ⟨rfl, hb2⟩
      obtain ⟨hc2, hf2⟩ := bcell hb2
      have hz2 := hb2.size
      simp only [World.size_alloc] at hz2
      have hl1 : w.heap.size < w2.heap.size := by omega
      have hl2 : w.heap.size + 1 < w2.heap.size := by omega
      have x0 : w2.cell? ⟨w.heap.size, 0, none⟩ = some (.int .i64 0) := by simp [hc2, go_sem]
      have x1 : w2.cell? ⟨w.heap.size, 1, none⟩ = some (.int .i64 0) := by simp [hc2, go_sem]
      have x2 : w2.cell? ⟨w.heap.size, 2, none⟩ = some (.int .i64 0) := by simp [hc2, go_sem]
      have x3 : w2.cell? ⟨w.heap.size, 3, none⟩ = some (.int .i64 0) := by simp [hc2, go_sem]
      have hB2 := ((((Below.refl _ _).alloc (Nat.le_refl _) _).alloc (by simp) _)).trans (hb2.mono (by simp; omega))
      go_wp2
      refine bodyPost_ret (v := ordV true (nth l 0) t (nth l 4) b) (by simp [ordV, results, Try.results29, go_sem, ↓cell_some, x0, x1, x2, x3]) rfl ⟨by first | (rw [hc.out]; done) | (rw [hc.out]; rfl), ?_⟩
      repeat (refine Below.setCell ?_ (by simp) _)
      exact hB2
  · have hd : dOk l = false := by unfold dOk; rw [decide_eq_false h7]; rfl
    have hc := Lib.hid (show dOrdV l = ordV false 0 0 0 0 by unfold dOrdV; rw [hd]; rfl)
    have i7 : ((l.length : Int) != 7) = true := by simp; omega
    clear hd
    go_enter Try.func29, Try.ntmps29
    go_wp2
    refine bodyPost_ret (v := ordV false 0 0 0 0) (by simp [ordV, results, Try.results29, go_sem]) rfl ⟨by rw [hc.out], ?_⟩
    repeat (first | exact Below.refl _ _ | refine Below.setCell ?_ (by simp <;> omega) _ | refine Below.alloc ?_ (by simp <;> omega) _)
end Go.Proofs.Ytnjopeonmenopaa
