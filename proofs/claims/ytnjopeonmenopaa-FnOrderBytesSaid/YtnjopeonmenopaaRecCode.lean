/- Contracts: records as bytes, and back, in the program and in the reference. No condition. -/
import Derived.Test.YtnjopeonmenopaaRec
import Derived.Test.YtnjopeonmenopaaWord
namespace Go.Proofs.Ytnjopeonmenopaa
open Go.RowKit

def encRec (a p t : Int) (d : List UInt8) : List UInt8 := if recOk a p t d then pwS a 2 ++ pwS p 1 ++ pwS t 3 ++ d else []
theorem encodeRecord_any (a p t : Int) (d : List UInt8) (w : World) (hd : Txt d) :
    Calls Try.prog 23 #[.agg #[.int .i64 a, .int .i64 p, .int .i64 t, .string ⟨d.toArray⟩]] w fun e w' => e = .returned (.string ⟨(encRec a p t d).toArray⟩) ∧ Below w.heap.size w w' := by
  have hd' := hd
  unfold Txt at hd'
  cases h : recOk a p t d
  · have hc := Lib.hid (show encRec a p t d = [] by unfold encRec; rw [h]; rfl)
    have hok := fun w => recordOk_any a p t d w hd
    simp only [h] at hok
    go_enter Try.func23, Try.ntmps23
    go_wp2_with fail
    refine (hok _).mono ?_
    rintro e w1 ⟨rfl, hb1⟩
    go_wp2
    go_ret
    exact ⟨ret_str hc.out.symm, ((Below.refl _ _).alloc (Nat.le_refl _) _).trans (hb1.mono (by simp))⟩
  · have hc := Lib.hid (show encRec a p t d = pwS a 2 ++ pwS p 1 ++ pwS t 3 ++ d by unfold encRec; rw [h]; rfl)
    have hok := fun w => recordOk_any a p t d w hd
    obtain ⟨b1, b2, b3, b4⟩ := recOk_parts h
    have b5 : (d.length : Int) ≤ 34 := by omega
    have hcat : ∀ (w : World), (Op.stringOp .add (ByteArray.mk (pw2 a).toArray ++ ByteArray.mk (pw1 p).toArray ++ ByteArray.mk (pw3 t).toArray) ⟨d.toArray⟩).run Try.prog w = .ok (.string (ByteArray.mk (pw2 a).toArray ++ ByteArray.mk (pw1 p).toArray ++ ByteArray.mk (pw3 t).toArray ++ ⟨d.toArray⟩)) w := fun w => run_string_add_sum w _ _ (by simp [ByteArray.size, pw2, pw1, pw3, ByteArray.data_append]; omega)
    simp only [h] at hok
    go_enter Try.func23, Try.ntmps23
    go_wp2_with fail
    refine (hok _).mono ?_
    rintro e w1 ⟨rfl, hb1⟩
    obtain ⟨hc1, hf1⟩ := bcell hb1
    have hz1 := hb1.size
    simp only [World.size_alloc] at hz1
    have hl1 : w.heap.size < w1.heap.size := by omega
    have hB1 := ((Below.refl _ _).alloc (Nat.le_refl _) _).trans (hb1.mono (by simp))
    go_wp2_with fail
    have HK : Hid (∀ wx, Below w1.heap.size w1 wx → (Below w1.heap.size w1 wx ∧ wx.cell? ⟨w.heap.size, 0, none⟩ = some (.int .i64 a) ∧ wx.cell? ⟨w.heap.size, 1, none⟩ = some (.int .i64 p) ∧ wx.cell? ⟨w.heap.size, 2, none⟩ = some (.int .i64 t) ∧ wx.cell? ⟨w.heap.size, 3, none⟩ = some (.string ⟨d.toArray⟩))) := Lib.hid (fun wx h => ⟨h, (h.cell (p := ⟨w.heap.size, 0, none⟩) (by simp; try omega)).trans (by simp [go_sem, hc1]), (h.cell (p := ⟨w.heap.size, 1, none⟩) (by simp; try omega)).trans (by simp [go_sem, hc1]), (h.cell (p := ⟨w.heap.size, 2, none⟩) (by simp; try omega)).trans (by simp [go_sem, hc1]), (h.cell (p := ⟨w.heap.size, 3, none⟩) (by simp; try omega)).trans (by simp [go_sem, hc1])⟩)
    go_region_held3 (fun wx => Below w1.heap.size w1 wx ∧ wx.cell? ⟨w.heap.size, 0, none⟩ = some (.int .i64 a) ∧ wx.cell? ⟨w.heap.size, 1, none⟩ = some (.int .i64 p) ∧ wx.cell? ⟨w.heap.size, 2, none⟩ = some (.int .i64 t) ∧ wx.cell? ⟨w.heap.size, 3, none⟩ = some (.string ⟨d.toArray⟩)) (first | exact HK.out _ (Below.refl _ _).drew | exact HK.out _ (below_step (And.left ‹_›) ‹_›)) (first | (go_at_call 55; refine (putWord_any _ _ _ (by omega) (by omega)).mono ?_; rintro e w' ⟨rfl, hb7⟩))
    all_goals
      have hH := And.left ‹_ ∧ _›
      go_wp2
      go_ret
      exact ⟨ret_app (by rw [hc.out, ByteArray.mk_append_mk]; rfl), below_step hB1 hH⟩
theorem sEncodeRecord_any (a p t : Int) (d : List UInt8) (w : World) (hd : Txt d) :
    Calls Try.prog 22 #[.agg #[.int .i64 a, .int .i64 p, .int .i64 t, .string ⟨d.toArray⟩]] w fun e w' => e = .returned (.string ⟨(encRec a p t d).toArray⟩) ∧ Below w.heap.size w w' := by
  have hd' := hd
  unfold Txt at hd'
  cases h : recOk a p t d
  · have hc := Lib.hid (show encRec a p t d = [] by unfold encRec; rw [h]; rfl)
    have hok := fun w => sRecordOk_any a p t d w hd
    simp only [h] at hok
    go_enter Try.func22, Try.ntmps22
    go_wp2_with fail
    refine (hok _).mono ?_
    rintro e w1 ⟨rfl, hb1⟩
    go_wp2
    go_ret
    exact ⟨ret_str hc.out.symm, ((Below.refl _ _).alloc (Nat.le_refl _) _).trans (hb1.mono (by simp))⟩
  · have hc := Lib.hid (show encRec a p t d = pwS a 2 ++ pwS p 1 ++ pwS t 3 ++ d by unfold encRec; rw [h]; rfl)
    have hok := fun w => sRecordOk_any a p t d w hd
    obtain ⟨b1, b2, b3, b4⟩ := recOk_parts h
    have b5 : (d.length : Int) ≤ 34 := by omega
    have hcat : ∀ (w : World), (Op.stringOp .add (ByteArray.mk (pw2 a).toArray ++ ByteArray.mk (pw1 p).toArray ++ ByteArray.mk (pw3 t).toArray) ⟨d.toArray⟩).run Try.prog w = .ok (.string (ByteArray.mk (pw2 a).toArray ++ ByteArray.mk (pw1 p).toArray ++ ByteArray.mk (pw3 t).toArray ++ ⟨d.toArray⟩)) w := fun w => run_string_add_sum w _ _ (by simp [ByteArray.size, pw2, pw1, pw3, ByteArray.data_append]; omega)
    simp only [h] at hok
    go_enter Try.func22, Try.ntmps22
    go_wp2_with fail
    refine (hok _).mono ?_
    rintro e w1 ⟨rfl, hb1⟩
    obtain ⟨hc1, hf1⟩ := bcell hb1
    have hz1 := hb1.size
    simp only [World.size_alloc] at hz1
    have hl1 : w.heap.size < w1.heap.size := by omega
    have hB1 := ((Below.refl _ _).alloc (Nat.le_refl _) _).trans (hb1.mono (by simp))
    go_wp2_with fail
    have HK : Hid (∀ wx, Below w1.heap.size w1 wx → (Below w1.heap.size w1 wx ∧ wx.cell? ⟨w.heap.size, 0, none⟩ = some (.int .i64 a) ∧ wx.cell? ⟨w.heap.size, 1, none⟩ = some (.int .i64 p) ∧ wx.cell? ⟨w.heap.size, 2, none⟩ = some (.int .i64 t) ∧ wx.cell? ⟨w.heap.size, 3, none⟩ = some (.string ⟨d.toArray⟩))) := Lib.hid (fun wx h => ⟨h, (h.cell (p := ⟨w.heap.size, 0, none⟩) (by simp; try omega)).trans (by simp [go_sem, hc1]), (h.cell (p := ⟨w.heap.size, 1, none⟩) (by simp; try omega)).trans (by simp [go_sem, hc1]), (h.cell (p := ⟨w.heap.size, 2, none⟩) (by simp; try omega)).trans (by simp [go_sem, hc1]), (h.cell (p := ⟨w.heap.size, 3, none⟩) (by simp; try omega)).trans (by simp [go_sem, hc1])⟩)
    go_region_held3 (fun wx => Below w1.heap.size w1 wx ∧ wx.cell? ⟨w.heap.size, 0, none⟩ = some (.int .i64 a) ∧ wx.cell? ⟨w.heap.size, 1, none⟩ = some (.int .i64 p) ∧ wx.cell? ⟨w.heap.size, 2, none⟩ = some (.int .i64 t) ∧ wx.cell? ⟨w.heap.size, 3, none⟩ = some (.string ⟨d.toArray⟩)) (first | exact HK.out _ (Below.refl _ _).drew | exact HK.out _ (below_step (And.left ‹_›) ‹_›)) (first | (go_at_call 54; refine (sPutWord_any _ _ _ (by omega) (by omega)).mono ?_; rintro e w' ⟨rfl, hb7⟩))
    all_goals
      have hH := And.left ‹_ ∧ _›
      go_wp2
      go_ret
      exact ⟨ret_app (by rw [hc.out, ByteArray.mk_append_mk]; rfl), below_step hB1 hH⟩

/-- What six bytes and more say. -/
def rA (l : List UInt8) : Int := nth l 0 * 256 + nth l (0 + 1)
def rP (l : List UInt8) : Int := nth l 2
def rT (l : List UInt8) : Int := (nth l 3 * 256 + nth l (3 + 1)) * 256 + nth l (3 + 2)
def rD (l : List UInt8) : List UInt8 := l.drop 6
def dROk (l : List UInt8) : Bool := decide (6 ≤ l.length) && recOk (rA l) (rP l) (rT l) (rD l)
def recV (ok : Bool) (a p t : Int) (d : List UInt8) : Value := .tuple #[.agg #[.int .i64 (if ok then a else 0), .int .i64 (if ok then p else 0), .int .i64 (if ok then t else 0), .string ⟨(if ok then d else []).toArray⟩], .bool ok]
def dRecV (l : List UInt8) : Value := recV (dROk l) (rA l) (rP l) (rT l) (rD l)

theorem decodeRecord_any (l : List UInt8) (w : World) (hl : Txt l) :
    Calls Try.prog 25 #[.string ⟨l.toArray⟩] w fun e w' => e = .returned (dRecV l) ∧ Below w.heap.size w w' := by
  unfold Txt at hl
  have htd : Txt (l.drop 6) := by unfold Txt; rw [List.length_drop]; omega
  by_cases h6 : 6 ≤ l.length
  · have hd : dROk l = recOk (rA l) (rP l) (rT l) (rD l) := by unfold dROk; rw [decide_eq_true h6]; rfl
    have i2 : (2 : Int) < l.length := by omega
    have i6 : (6 : Int) ≤ l.length := by omega
    have i6' : decide ((l.length : Int) < 6) = false := by simp; omega
    have g2 : ∀ w, Calls Try.prog 57 #[.string ⟨l.toArray⟩, .int .i64 0, .int .i64 2] w fun e w' => e = .returned (.tuple #[.int .i64 (rA l), .bool true]) ∧ w = w' := fun w => getWord2 l 0 w (by omega) (by omega) hl
    have g3 : ∀ w, Calls Try.prog 57 #[.string ⟨l.toArray⟩, .int .i64 3, .int .i64 3] w fun e w' => e = .returned (.tuple #[.int .i64 (rT l), .bool true]) ∧ w = w' := fun w => getWord3 l 3 w (by omega) (by omega) hl
    have hv : dRecV l = recV (dROk l) (rA l) (nth l 2) (rT l) (l.drop 6) := rfl
    have hd' : dROk l = recOk (rA l) (nth l 2) (rT l) (l.drop 6) := hd
    clear hd
    generalize rT l = t at *
    generalize rA l = a at *
    generalize dROk l = ok at *
    have hok := fun w => recordOk_any a (nth l 2) t (l.drop 6) w htd
    rw [← hd'] at hok
    clear hd'
    cases ok
    · have hc := Lib.hid (show dRecV l = recV false 0 0 0 [] from hv)
      clear hv
      go_enter Try.func25, Try.ntmps25
      go_wp2_with fail
      refine (g2 _).mono ?_
      rintro e w1 ⟨rfl, rfl⟩
      go_wp2_with fail
      refine (g3 _).mono ?_
      rintro e w1 ⟨rfl, rfl⟩
      go_wp2_with fail
      go_region
      go_wp2_with fail
      refine (hok _).mono ?_
      rintro e w2 ⟨rfl, hb2⟩
      obtain ⟨hc2, hf2⟩ := bcell hb2
      have hz2 := hb2.size
      simp only [World.size_alloc, World.size_drew] at hz2
      have hl1 : w.heap.size < w2.heap.size := by omega
      have hl2 : w.heap.size + 1 < w2.heap.size := by omega
      have x0 : w2.cell? ⟨w.heap.size, 0, none⟩ = some (.int .i64 0) := by simp [hc2, go_sem]
      have x1 : w2.cell? ⟨w.heap.size, 1, none⟩ = some (.int .i64 0) := by simp [hc2, go_sem]
      have x2 : w2.cell? ⟨w.heap.size, 2, none⟩ = some (.int .i64 0) := by simp [hc2, go_sem]
      have x3 : w2.cell? ⟨w.heap.size, 3, none⟩ = some (.string ⟨#[]⟩) := by simp [hc2, go_sem]
      have hB2 := ((((Below.refl _ _).alloc (Nat.le_refl _) _).alloc (by simp) _).drew).trans (hb2.mono (by simp; omega))
      go_wp2
      refine bodyPost_ret (v := recV false a (nth l 2) t (l.drop 6)) (by simp [recV, results, Try.results25, go_sem, ↓cell_some, x0, x1, x2, x3]) rfl ⟨by first | (rw [hc.out]; done) | (rw [hc.out]; rfl), ?_⟩
      repeat (refine Below.setCell ?_ (by simp) _)
      exact hB2
    · have hc := Lib.hid (show dRecV l = recV true a (nth l 2) t (l.drop 6) from hv)
      clear hv
      go_enter Try.func25, Try.ntmps25
      go_wp2_with fail
      refine (g2 _).mono ?_
      rintro e w1 ⟨rfl, rfl⟩
      go_wp2_with fail
      refine (g3 _).mono ?_
      rintro e w1 ⟨rfl, rfl⟩
      go_wp2_with fail
      go_region
      go_wp2_with fail
      refine (hok _).mono ?_
      rintro e w2 ⟨rfl, hb2⟩
      obtain ⟨hc2, hf2⟩ := bcell hb2
      have hz2 := hb2.size
      simp only [World.size_alloc, World.size_drew] at hz2
      have hl1 : w.heap.size < w2.heap.size := by omega
      have hl2 : w.heap.size + 1 < w2.heap.size := by omega
      have x0 : w2.cell? ⟨w.heap.size, 0, none⟩ = some (.int .i64 0) := by simp [hc2, go_sem]
      have x1 : w2.cell? ⟨w.heap.size, 1, none⟩ = some (.int .i64 0) := by simp [hc2, go_sem]
      have x2 : w2.cell? ⟨w.heap.size, 2, none⟩ = some (.int .i64 0) := by simp [hc2, go_sem]
      have x3 : w2.cell? ⟨w.heap.size, 3, none⟩ = some (.string ⟨#[]⟩) := by simp [hc2, go_sem]
      have hB2 := ((((Below.refl _ _).alloc (Nat.le_refl _) _).alloc (by simp) _).drew).trans (hb2.mono (by simp; omega))
      go_wp2
      refine bodyPost_ret (v := recV true a (nth l 2) t (l.drop 6)) (by simp [recV, results, Try.results25, go_sem, ↓cell_some, x0, x1, x2, x3]) rfl ⟨by first | (rw [hc.out]; done) | (rw [hc.out]; rfl), ?_⟩
      repeat (refine Below.setCell ?_ (by simp) _)
      exact hB2
  · have hd : dROk l = false := by unfold dROk; rw [decide_eq_false h6]; rfl
    have hc := Lib.hid (show dRecV l = recV false 0 0 0 [] by unfold dRecV; rw [hd]; rfl)
    have i7 : decide ((l.length : Int) < 6) = true := by simp; omega
    clear hd
    go_enter Try.func25, Try.ntmps25
    go_wp2
    refine bodyPost_ret (v := recV false 0 0 0 []) (by simp [recV, results, Try.results25, go_sem]) rfl ⟨by rw [hc.out], ?_⟩
    repeat (first | exact Below.refl _ _ | refine Below.setCell ?_ (by simp <;> omega) _ | refine Below.alloc ?_ (by simp <;> omega) _)
theorem sDecodeRecord_any (l : List UInt8) (w : World) (hl : Txt l) :
    Calls Try.prog 24 #[.string ⟨l.toArray⟩] w fun e w' => e = .returned (dRecV l) ∧ Below w.heap.size w w' := by
  unfold Txt at hl
  have htd : Txt (l.drop 6) := by unfold Txt; rw [List.length_drop]; omega
  by_cases h6 : 6 ≤ l.length
  · have hd : dROk l = recOk (rA l) (rP l) (rT l) (rD l) := by unfold dROk; rw [decide_eq_true h6]; rfl
    have i2 : (2 : Int) < l.length := by omega
    have i6 : (6 : Int) ≤ l.length := by omega
    have i6' : decide ((l.length : Int) < 6) = false := by simp; omega
    have g2 : ∀ w, Calls Try.prog 56 #[.string ⟨l.toArray⟩, .int .i64 0, .int .i64 2] w fun e w' => e = .returned (.tuple #[.int .i64 (rA l), .bool true]) ∧ w = w' := fun w => sGetWord2 l 0 w (by omega) (by omega) hl
    have g3 : ∀ w, Calls Try.prog 56 #[.string ⟨l.toArray⟩, .int .i64 3, .int .i64 3] w fun e w' => e = .returned (.tuple #[.int .i64 (rT l), .bool true]) ∧ w = w' := fun w => sGetWord3 l 3 w (by omega) (by omega) hl
    have g1 : ∀ w, Calls Try.prog 56 #[.string ⟨l.toArray⟩, .int .i64 2, .int .i64 1] w fun e w' => e = .returned (.tuple #[.int .i64 (nth l 2), .bool true]) ∧ w = w' := fun w => sGetWord1 l 2 w (by omega) (by omega) hl
    have hv : dRecV l = recV (dROk l) (rA l) (nth l 2) (rT l) (l.drop 6) := rfl
    have hd' : dROk l = recOk (rA l) (nth l 2) (rT l) (l.drop 6) := hd
    clear hd
    generalize rT l = t at *
    generalize rA l = a at *
    generalize dROk l = ok at *
    have hok := fun w => sRecordOk_any a (nth l 2) t (l.drop 6) w htd
    rw [← hd'] at hok
    clear hd'
    cases ok
    · have hc := Lib.hid (show dRecV l = recV false 0 0 0 [] from hv)
      clear hv
      go_enter Try.func24, Try.ntmps24
      go_wp2_with fail
      refine (g2 _).mono ?_
      rintro e w1 ⟨rfl, rfl⟩
      go_wp2_with fail
      refine (g1 _).mono ?_
      rintro e w1 ⟨rfl, rfl⟩
      go_wp2_with fail
      refine (g3 _).mono ?_
      rintro e w1 ⟨rfl, rfl⟩
      go_wp2_with fail
      refine (hok _).mono ?_
      rintro e w2 ⟨rfl, hb2⟩
      obtain ⟨hc2, hf2⟩ := bcell hb2
      have hz2 := hb2.size
      simp only [World.size_alloc] at hz2
      have hl1 : w.heap.size < w2.heap.size := by omega
      have hl2 : w.heap.size + 1 < w2.heap.size := by omega
      have x0 : w2.cell? ⟨w.heap.size, 0, none⟩ = some (.int .i64 0) := by simp [hc2, go_sem]
      have x1 : w2.cell? ⟨w.heap.size, 1, none⟩ = some (.int .i64 0) := by simp [hc2, go_sem]
      have x2 : w2.cell? ⟨w.heap.size, 2, none⟩ = some (.int .i64 0) := by simp [hc2, go_sem]
      have x3 : w2.cell? ⟨w.heap.size, 3, none⟩ = some (.string ⟨#[]⟩) := by simp [hc2, go_sem]
      have hB2 := ((((Below.refl _ _).alloc (Nat.le_refl _) _).alloc (by simp) _)).trans (hb2.mono (by simp; omega))
      go_wp2
      refine bodyPost_ret (v := recV false a (nth l 2) t (l.drop 6)) (by simp [recV, results, Try.results24, go_sem, ↓cell_some, x0, x1, x2, x3]) rfl ⟨by first | (rw [hc.out]; done) | (rw [hc.out]; rfl), ?_⟩
      repeat (refine Below.setCell ?_ (by simp) _)
      exact hB2
    · have hc := Lib.hid (show dRecV l = recV true a (nth l 2) t (l.drop 6) from hv)
      clear hv
      go_enter Try.func24, Try.ntmps24
      go_wp2_with fail
      refine (g2 _).mono ?_
      rintro e w1 ⟨rfl, rfl⟩
      go_wp2_with fail
      refine (g1 _).mono ?_
      rintro e w1 ⟨rfl, rfl⟩
      go_wp2_with fail
      refine (g3 _).mono ?_
      rintro e w1 ⟨rfl, rfl⟩
      go_wp2_with fail
      refine (hok _).mono ?_
      rintro e w2 ⟨rfl, hb2⟩
      obtain ⟨hc2, hf2⟩ := bcell hb2
      have hz2 := hb2.size
      simp only [World.size_alloc] at hz2
      have hl1 : w.heap.size < w2.heap.size := by omega
      have hl2 : w.heap.size + 1 < w2.heap.size := by omega
      have x0 : w2.cell? ⟨w.heap.size, 0, none⟩ = some (.int .i64 0) := by simp [hc2, go_sem]
      have x1 : w2.cell? ⟨w.heap.size, 1, none⟩ = some (.int .i64 0) := by simp [hc2, go_sem]
      have x2 : w2.cell? ⟨w.heap.size, 2, none⟩ = some (.int .i64 0) := by simp [hc2, go_sem]
      have x3 : w2.cell? ⟨w.heap.size, 3, none⟩ = some (.string ⟨#[]⟩) := by simp [hc2, go_sem]
      have hB2 := ((((Below.refl _ _).alloc (Nat.le_refl _) _).alloc (by simp) _)).trans (hb2.mono (by simp; omega))
      go_wp2
      refine bodyPost_ret (v := recV true a (nth l 2) t (l.drop 6)) (by simp [recV, results, Try.results24, go_sem, ↓cell_some, x0, x1, x2, x3]) rfl ⟨by first | (rw [hc.out]; done) | (rw [hc.out]; rfl), ?_⟩
      repeat (refine Below.setCell ?_ (by simp) _)
      exact hB2
  · have hd : dROk l = false := by unfold dROk; rw [decide_eq_false h6]; rfl
    have hc := Lib.hid (show dRecV l = recV false 0 0 0 [] by unfold dRecV; rw [hd]; rfl)
    have i7 : decide ((l.length : Int) < 6) = true := by simp; omega
    clear hd
    go_enter Try.func24, Try.ntmps24
    go_wp2
    refine bodyPost_ret (v := recV false 0 0 0 []) (by simp [recV, results, Try.results24, go_sem]) rfl ⟨by rw [hc.out], ?_⟩
    repeat (first | exact Below.refl _ _ | refine Below.setCell ?_ (by simp <;> omega) _ | refine Below.alloc ?_ (by simp <;> omega) _)
end Go.Proofs.Ytnjopeonmenopaa
