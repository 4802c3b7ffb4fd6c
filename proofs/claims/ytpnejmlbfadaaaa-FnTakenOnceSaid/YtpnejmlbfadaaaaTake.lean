/- Contracts: a receiver takes a command, in the program and in the reference. No condition. -/
import Derived.Test.YtpnejmlbfadaaaaCmd
import Derived.Test.YtpnejmlbfadaaaaRecv
namespace Go.Proofs.Ytpnejmlbfadaaaa
open Go.RowKit

def recvV (e : Int) (lk ag : Bool) (tk : Int) (d : List UInt8) (t : Bool) : Value := .tuple #[.agg #[.int .i64 e, .bool lk, .bool ag, .int .i64 tk], .string ⟨d.toArray⟩, .bool t]
/-- What a receiver makes of a command that was read. -/
def tkV (e : Int) (lk ag : Bool) (tk : Int) (ok : Bool) (k n : Int) (d : List UInt8) : Value :=
  if recvOk e tk = false ∨ ok = false then recvV e lk ag tk [] false
  else if k = 1 then recvV e false false tk [] false
  else if lk = true then recvV e lk ag tk [] false
  else if (n - e + 256) % 256 = 0 ∧ tk < 1000000 then recvV ((e + 1) % 256) lk false (tk + 1) d true
  else if inB ((n - e + 256) % 256) 1 40 = true then recvV e lk true tk [] false
  else if inB ((n - e + 256) % 256) 41 215 = true then recvV e true ag tk [] false
  else recvV e lk ag tk [] false

theorem recvOk_parts {e tk : Int} (h : recvOk e tk = true) : (0 ≤ e ∧ e ≤ 255) ∧ (0 ≤ tk ∧ tk ≤ 1000000) := by
  unfold recvOk at h
  simp only [Bool.and_eq_true] at h
  exact ⟨inB_true h.1, inB_true h.2⟩
theorem dc_ranges (l : List UInt8) : (dcK l = 0 ∨ dcK l = 1) ∧ (0 ≤ dcN l ∧ dcN l ≤ 255) := by
  have a0 := nth_lo (opT l) 0
  have a1 := nth_lo (opT l) 1
  have c1 := nth_hi (opT l) 1
  cases h : dcOk l
  · obtain ⟨h1, h2, _⟩ := dc_no h
    rw [h1, h2]; omega
  · obtain ⟨h1, h2, _⟩ := dc_yes h
    unfold dcOk at h
    simp only [Bool.and_eq_true, decide_eq_true_eq] at h
    rw [h1, h2]; omega

set_option maxHeartbeats 1600000 in
theorem takeCommand1 (e : Int) (lk ag : Bool) (tk : Int) (ok : Bool) (k n : Int) (d l : List UInt8) (w : World)
    (hdec : ∀ w, Calls Try.prog 43 #[.string ⟨l.toArray⟩] w fun r w' => r = .returned (.tuple #[.int .i64 k, .int .i64 n, .string ⟨d.toArray⟩, .bool ok]) ∧ Below w.heap.size w w')
    (hro : recvOk e tk = false ∨ ok = false) :
    Calls Try.prog 33 #[.agg #[.int .i64 e, .bool lk, .bool ag, .int .i64 tk], .string ⟨l.toArray⟩] w fun r w' => r = .returned (recvV e lk ag tk [] false) ∧ Below w.heap.size w w' := by
  go_enter Try.func33, Try.ntmps33
  go_wp2_with fail
  refine (hdec _).mono ?_
  rintro e w1 ⟨rfl, hb1⟩
  have hz1 := hb1.size
  have hB1 := (((Below.refl _ _).alloc (Nat.le_refl _) _).alloc (by simp) _).trans (hb1.mono (by simp; omega))
  simp only [World.size_alloc] at hz1
  obtain ⟨hc1, hf1⟩ := bcell hb1
  have hl1 : w.heap.size < w1.heap.size := by omega
  have hl2 : w.heap.size + 1 < w1.heap.size := by omega
  go_wp2_with fail
  refine (receiverOk_any _ _ _ _ _).mono ?_
  rintro e w2 ⟨rfl, hb2⟩
  have hB2 := below_step hB1 hb2
  have hz2 := hb2.size
  obtain ⟨hc2, hf2⟩ := bcell hb2
  have hl3 : w.heap.size < w2.heap.size := by omega
  have hl4 : w.heap.size + 1 < w2.heap.size := by omega
  have hle : w.heap.size ≤ w.heap.size + 1 := by omega
  have x0 : w2.cell? ⟨w.heap.size, 0, none⟩ = some (.int .i64 e) := by simp [hc2, hc1, hl1, go_sem]
  have x1 : w2.cell? ⟨w.heap.size, 1, none⟩ = some (.bool lk) := by simp [hc2, hc1, hl1, go_sem]
  have x2 : w2.cell? ⟨w.heap.size, 2, none⟩ = some (.bool ag) := by simp [hc2, hc1, hl1, go_sem]
  have x3 : w2.cell? ⟨w.heap.size, 3, none⟩ = some (.int .i64 tk) := by simp [hc2, hc1, hl1, go_sem]
  have y0 : w2.cell? ⟨w.heap.size + 1, 0, none⟩ = some (.int .i64 0) := by simp [hc2, hc1, hl2, go_sem]
  have y1 : w2.cell? ⟨w.heap.size + 1, 1, none⟩ = some (.bool false) := by simp [hc2, hc1, hl2, go_sem]
  have y2 : w2.cell? ⟨w.heap.size + 1, 2, none⟩ = some (.bool false) := by simp [hc2, hc1, hl2, go_sem]
  have y3 : w2.cell? ⟨w.heap.size + 1, 3, none⟩ = some (.int .i64 0) := by simp [hc2, hc1, hl2, go_sem]
  have f0 : ∀ o, w2.frozen? ⟨w.heap.size, o, none⟩ = false := fun o => by simp [hf2, hf1, hl1, go_sem]
  have f1 : ∀ o, w2.frozen? ⟨w.heap.size + 1, o, none⟩ = false := fun o => by simp [hf2, hf1, hl2, go_sem]
  clear hdec hb1 hc1 hf1 hf2 hc2
  by_cases hr : recvOk e tk = false
  · go_wp2
    refine bodyPost_ret (v := recvV e lk ag tk [] false) (by simp [recvV, results, Try.results33, go_sem, ↓cell_some, y0, y1, y2, y3]) rfl ⟨rfl, ?_⟩
    repeat (refine Below.setCell ?_ (by simp) _)
    exact hB2
  · have ho : ok = false := hro.resolve_left hr
    subst ho
    go_wp2
    refine bodyPost_ret (v := recvV e lk ag tk [] false) (by simp [recvV, results, Try.results33, go_sem, ↓cell_some, y0, y1, y2, y3]) rfl ⟨rfl, ?_⟩
    repeat (refine Below.setCell ?_ (by simp) _)
    exact hB2
set_option maxHeartbeats 1600000 in
theorem takeCommand2 (e : Int) (lk ag : Bool) (tk : Int) (n : Int) (d l : List UInt8) (w : World)
    (hdec : ∀ w, Calls Try.prog 43 #[.string ⟨l.toArray⟩] w fun r w' => r = .returned (.tuple #[.int .i64 1, .int .i64 n, .string ⟨d.toArray⟩, .bool true]) ∧ Below w.heap.size w w')
    (hro : recvOk e tk = true) :
    Calls Try.prog 33 #[.agg #[.int .i64 e, .bool lk, .bool ag, .int .i64 tk], .string ⟨l.toArray⟩] w fun r w' => r = .returned (recvV e false false tk [] false) ∧ Below w.heap.size w w' := by
  go_enter Try.func33, Try.ntmps33
  go_wp2_with fail
  refine (hdec _).mono ?_
  rintro e w1 ⟨rfl, hb1⟩
  have hz1 := hb1.size
  have hB1 := (((Below.refl _ _).alloc (Nat.le_refl _) _).alloc (by simp) _).trans (hb1.mono (by simp; omega))
  simp only [World.size_alloc] at hz1
  obtain ⟨hc1, hf1⟩ := bcell hb1
  have hl1 : w.heap.size < w1.heap.size := by omega
  have hl2 : w.heap.size + 1 < w1.heap.size := by omega
  go_wp2_with fail
  refine (receiverOk_any _ _ _ _ _).mono ?_
  rintro e w2 ⟨rfl, hb2⟩
  have hB2 := below_step hB1 hb2
  have hz2 := hb2.size
  obtain ⟨hc2, hf2⟩ := bcell hb2
  have hl3 : w.heap.size < w2.heap.size := by omega
  have hl4 : w.heap.size + 1 < w2.heap.size := by omega
  have hle : w.heap.size ≤ w.heap.size + 1 := by omega
  have x0 : w2.cell? ⟨w.heap.size, 0, none⟩ = some (.int .i64 e) := by simp [hc2, hc1, hl1, go_sem]
  have x1 : w2.cell? ⟨w.heap.size, 1, none⟩ = some (.bool lk) := by simp [hc2, hc1, hl1, go_sem]
  have x2 : w2.cell? ⟨w.heap.size, 2, none⟩ = some (.bool ag) := by simp [hc2, hc1, hl1, go_sem]
  have x3 : w2.cell? ⟨w.heap.size, 3, none⟩ = some (.int .i64 tk) := by simp [hc2, hc1, hl1, go_sem]
  have y0 : w2.cell? ⟨w.heap.size + 1, 0, none⟩ = some (.int .i64 0) := by simp [hc2, hc1, hl2, go_sem]
  have y1 : w2.cell? ⟨w.heap.size + 1, 1, none⟩ = some (.bool false) := by simp [hc2, hc1, hl2, go_sem]
  have y2 : w2.cell? ⟨w.heap.size + 1, 2, none⟩ = some (.bool false) := by simp [hc2, hc1, hl2, go_sem]
  have y3 : w2.cell? ⟨w.heap.size + 1, 3, none⟩ = some (.int .i64 0) := by simp [hc2, hc1, hl2, go_sem]
  have f0 : ∀ o, w2.frozen? ⟨w.heap.size, o, none⟩ = false := fun o => by simp [hf2, hf1, hl1, go_sem]
  have f1 : ∀ o, w2.frozen? ⟨w.heap.size + 1, o, none⟩ = false := fun o => by simp [hf2, hf1, hl2, go_sem]
  clear hdec hb1 hc1 hf1 hf2 hc2
  go_wp2
  refine bodyPost_ret (v := recvV e false false tk [] false) (by simp [recvV, results, Try.results33, go_sem, ↓cell_some, y0, y1, y2, y3]) rfl ⟨rfl, ?_⟩
  repeat (refine Below.setCell ?_ (by simp) _)
  exact hB2
set_option maxHeartbeats 1600000 in
theorem takeCommand3 (e : Int) (ag : Bool) (tk : Int) (n : Int) (d l : List UInt8) (w : World)
    (hdec : ∀ w, Calls Try.prog 43 #[.string ⟨l.toArray⟩] w fun r w' => r = .returned (.tuple #[.int .i64 0, .int .i64 n, .string ⟨d.toArray⟩, .bool true]) ∧ Below w.heap.size w w')
    (hro : recvOk e tk = true) :
    Calls Try.prog 33 #[.agg #[.int .i64 e, .bool true, .bool ag, .int .i64 tk], .string ⟨l.toArray⟩] w fun r w' => r = .returned (recvV e true ag tk [] false) ∧ Below w.heap.size w w' := by
  go_enter Try.func33, Try.ntmps33
  go_wp2_with fail
  refine (hdec _).mono ?_
  rintro e w1 ⟨rfl, hb1⟩
  have hz1 := hb1.size
  have hB1 := (((Below.refl _ _).alloc (Nat.le_refl _) _).alloc (by simp) _).trans (hb1.mono (by simp; omega))
  simp only [World.size_alloc] at hz1
  obtain ⟨hc1, hf1⟩ := bcell hb1
  have hl1 : w.heap.size < w1.heap.size := by omega
  have hl2 : w.heap.size + 1 < w1.heap.size := by omega
  go_wp2_with fail
  refine (receiverOk_any _ _ _ _ _).mono ?_
  rintro e w2 ⟨rfl, hb2⟩
  have hB2 := below_step hB1 hb2
  have hz2 := hb2.size
  obtain ⟨hc2, hf2⟩ := bcell hb2
  have hl3 : w.heap.size < w2.heap.size := by omega
  have hl4 : w.heap.size + 1 < w2.heap.size := by omega
  have hle : w.heap.size ≤ w.heap.size + 1 := by omega
  have x0 : w2.cell? ⟨w.heap.size, 0, none⟩ = some (.int .i64 e) := by simp [hc2, hc1, hl1, go_sem]
  have x1 : w2.cell? ⟨w.heap.size, 1, none⟩ = some (.bool true) := by simp [hc2, hc1, hl1, go_sem]
  have x2 : w2.cell? ⟨w.heap.size, 2, none⟩ = some (.bool ag) := by simp [hc2, hc1, hl1, go_sem]
  have x3 : w2.cell? ⟨w.heap.size, 3, none⟩ = some (.int .i64 tk) := by simp [hc2, hc1, hl1, go_sem]
  have y0 : w2.cell? ⟨w.heap.size + 1, 0, none⟩ = some (.int .i64 0) := by simp [hc2, hc1, hl2, go_sem]
  have y1 : w2.cell? ⟨w.heap.size + 1, 1, none⟩ = some (.bool false) := by simp [hc2, hc1, hl2, go_sem]
  have y2 : w2.cell? ⟨w.heap.size + 1, 2, none⟩ = some (.bool false) := by simp [hc2, hc1, hl2, go_sem]
  have y3 : w2.cell? ⟨w.heap.size + 1, 3, none⟩ = some (.int .i64 0) := by simp [hc2, hc1, hl2, go_sem]
  have f0 : ∀ o, w2.frozen? ⟨w.heap.size, o, none⟩ = false := fun o => by simp [hf2, hf1, hl1, go_sem]
  have f1 : ∀ o, w2.frozen? ⟨w.heap.size + 1, o, none⟩ = false := fun o => by simp [hf2, hf1, hl2, go_sem]
  clear hdec hb1 hc1 hf1 hf2 hc2
  go_wp2
  refine bodyPost_ret (v := recvV e true ag tk [] false) (by simp [recvV, results, Try.results33, go_sem, ↓cell_some, y0, y1, y2, y3]) rfl ⟨rfl, ?_⟩
  repeat (refine Below.setCell ?_ (by simp) _)
  exact hB2
set_option maxHeartbeats 1600000 in
theorem takeCommand4 (e : Int) (ag : Bool) (tk : Int) (n : Int) (d l : List UInt8) (w : World)
    (hdec : ∀ w, Calls Try.prog 43 #[.string ⟨l.toArray⟩] w fun r w' => r = .returned (.tuple #[.int .i64 0, .int .i64 n, .string ⟨d.toArray⟩, .bool true]) ∧ Below w.heap.size w w')
    (hro : recvOk e tk = true) (hn : 0 ≤ n ∧ n ≤ 255) (hdd : (n - e + 256) % 256 = 0) (ht : tk < 1000000) :
    Calls Try.prog 33 #[.agg #[.int .i64 e, .bool false, .bool ag, .int .i64 tk], .string ⟨l.toArray⟩] w fun r w' => r = .returned (recvV ((e + 1) % 256) false false (tk + 1) d true) ∧ Below w.heap.size w w' := by
  obtain ⟨hp1, hp2⟩ := recvOk_parts hro
  have hx0 : 0 ≤ n - e + 256 := by omega
  have hx : (0 : Int) ≤ (n - e + 256) % 256 ∧ (n - e + 256) % 256 ≤ 255 := by omega
  have hm : (n - e + 256).tmod 256 = (n - e + 256) % 256 := Int.tmod_eq_emod_of_nonneg hx0
  have hm2 : (e + 1).tmod 256 = (e + 1) % 256 := Int.tmod_eq_emod_of_nonneg (by omega)
  have hE : (n - e + 256) % 256 = (n - e) % 256 := by omega
  rw [hE] at hdd hx hm
  go_enter Try.func33, Try.ntmps33
  go_wp2_with fail
  refine (hdec _).mono ?_
  rintro e w1 ⟨rfl, hb1⟩
  have hz1 := hb1.size
  have hB1 := (((Below.refl _ _).alloc (Nat.le_refl _) _).alloc (by simp) _).trans (hb1.mono (by simp; omega))
  simp only [World.size_alloc] at hz1
  obtain ⟨hc1, hf1⟩ := bcell hb1
  have hl1 : w.heap.size < w1.heap.size := by omega
  have hl2 : w.heap.size + 1 < w1.heap.size := by omega
  go_wp2_with fail
  refine (receiverOk_any _ _ _ _ _).mono ?_
  rintro e w2 ⟨rfl, hb2⟩
  have hB2 := below_step hB1 hb2
  have hz2 := hb2.size
  obtain ⟨hc2, hf2⟩ := bcell hb2
  have hl3 : w.heap.size < w2.heap.size := by omega
  have hl4 : w.heap.size + 1 < w2.heap.size := by omega
  have hle : w.heap.size ≤ w.heap.size + 1 := by omega
  have x0 : w2.cell? ⟨w.heap.size, 0, none⟩ = some (.int .i64 e) := by simp [hc2, hc1, hl1, go_sem]
  have x1 : w2.cell? ⟨w.heap.size, 1, none⟩ = some (.bool false) := by simp [hc2, hc1, hl1, go_sem]
  have x2 : w2.cell? ⟨w.heap.size, 2, none⟩ = some (.bool ag) := by simp [hc2, hc1, hl1, go_sem]
  have x3 : w2.cell? ⟨w.heap.size, 3, none⟩ = some (.int .i64 tk) := by simp [hc2, hc1, hl1, go_sem]
  have y0 : w2.cell? ⟨w.heap.size + 1, 0, none⟩ = some (.int .i64 0) := by simp [hc2, hc1, hl2, go_sem]
  have y1 : w2.cell? ⟨w.heap.size + 1, 1, none⟩ = some (.bool false) := by simp [hc2, hc1, hl2, go_sem]
  have y2 : w2.cell? ⟨w.heap.size + 1, 2, none⟩ = some (.bool false) := by simp [hc2, hc1, hl2, go_sem]
  have y3 : w2.cell? ⟨w.heap.size + 1, 3, none⟩ = some (.int .i64 0) := by simp [hc2, hc1, hl2, go_sem]
  have f0 : ∀ o, w2.frozen? ⟨w.heap.size, o, none⟩ = false := fun o => by simp [hf2, hf1, hl1, go_sem]
  have f1 : ∀ o, w2.frozen? ⟨w.heap.size + 1, o, none⟩ = false := fun o => by simp [hf2, hf1, hl2, go_sem]
  clear hdec hb1 hc1 hf1 hf2 hc2
  have r0 : ∀ v, (w2.setCell ⟨w.heap.size, 0, none⟩ v).cell? ⟨w.heap.size, 0, none⟩ = some v := fun v => World.cell?_setCell_same' _ _ _ (by rw [x0]; rfl)
  have r3 : ∀ u v, ((w2.setCell ⟨w.heap.size, 0, none⟩ u).setCell ⟨w.heap.size, 3, none⟩ v).cell? ⟨w.heap.size, 3, none⟩ = some v := fun u v => World.cell?_setCell_same' _ _ _ (by simp [go_sem, x3])
  have r2 : ∀ u v x, (((w2.setCell ⟨w.heap.size, 0, none⟩ u).setCell ⟨w.heap.size, 3, none⟩ v).setCell ⟨w.heap.size, 2, none⟩ x).cell? ⟨w.heap.size, 2, none⟩ = some x := fun u v x => World.cell?_setCell_same' _ _ _ (by simp [go_sem, x2])
  go_wp2
  refine bodyPost_ret (v := recvV ((e + 1) % 256) false false (tk + 1) d true) (by simp [recvV, results, Try.results33, go_sem, ↓cell_some, y0, y1, y2, y3]) rfl ⟨rfl, ?_⟩
  repeat (refine Below.setCell ?_ (by simp) _)
  exact hB2
set_option maxHeartbeats 1600000 in
theorem takeCommand5 (e : Int) (ag : Bool) (tk : Int) (n : Int) (d l : List UInt8) (w : World)
    (hdec : ∀ w, Calls Try.prog 43 #[.string ⟨l.toArray⟩] w fun r w' => r = .returned (.tuple #[.int .i64 0, .int .i64 n, .string ⟨d.toArray⟩, .bool true]) ∧ Below w.heap.size w w')
    (hro : recvOk e tk = true) (hn : 0 ≤ n ∧ n ≤ 255) (hdd : ¬ ((n - e + 256) % 256 = 0 ∧ tk < 1000000)) (b1 : inB ((n - e + 256) % 256) 1 40 = true) (b2 : inB ((n - e + 256) % 256) 41 215 = false) :
    Calls Try.prog 33 #[.agg #[.int .i64 e, .bool false, .bool ag, .int .i64 tk], .string ⟨l.toArray⟩] w fun r w' => r = .returned (recvV e false true tk [] false) ∧ Below w.heap.size w w' := by
  obtain ⟨hp1, hp2⟩ := recvOk_parts hro
  have hx0 : 0 ≤ n - e + 256 := by omega
  have hx : (0 : Int) ≤ (n - e + 256) % 256 ∧ (n - e + 256) % 256 ≤ 255 := by omega
  have hm : (n - e + 256).tmod 256 = (n - e + 256) % 256 := Int.tmod_eq_emod_of_nonneg hx0
  have hm2 : (e + 1).tmod 256 = (e + 1) % 256 := Int.tmod_eq_emod_of_nonneg (by omega)
  have hE : (n - e + 256) % 256 = (n - e) % 256 := by omega
  rw [hE] at hdd hx hm
  rw [hE] at b1 b2
  go_enter Try.func33, Try.ntmps33
  go_wp2_with fail
  refine (hdec _).mono ?_
  rintro e w1 ⟨rfl, hb1⟩
  have hz1 := hb1.size
  have hB1 := (((Below.refl _ _).alloc (Nat.le_refl _) _).alloc (by simp) _).trans (hb1.mono (by simp; omega))
  simp only [World.size_alloc] at hz1
  obtain ⟨hc1, hf1⟩ := bcell hb1
  have hl1 : w.heap.size < w1.heap.size := by omega
  have hl2 : w.heap.size + 1 < w1.heap.size := by omega
  go_wp2_with fail
  refine (receiverOk_any _ _ _ _ _).mono ?_
  rintro e w2 ⟨rfl, hb2⟩
  have hB2 := below_step hB1 hb2
  have hz2 := hb2.size
  obtain ⟨hc2, hf2⟩ := bcell hb2
  have hl3 : w.heap.size < w2.heap.size := by omega
  have hl4 : w.heap.size + 1 < w2.heap.size := by omega
  have hle : w.heap.size ≤ w.heap.size + 1 := by omega
  have x0 : w2.cell? ⟨w.heap.size, 0, none⟩ = some (.int .i64 e) := by simp [hc2, hc1, hl1, go_sem]
  have x1 : w2.cell? ⟨w.heap.size, 1, none⟩ = some (.bool false) := by simp [hc2, hc1, hl1, go_sem]
  have x2 : w2.cell? ⟨w.heap.size, 2, none⟩ = some (.bool ag) := by simp [hc2, hc1, hl1, go_sem]
  have x3 : w2.cell? ⟨w.heap.size, 3, none⟩ = some (.int .i64 tk) := by simp [hc2, hc1, hl1, go_sem]
  have y0 : w2.cell? ⟨w.heap.size + 1, 0, none⟩ = some (.int .i64 0) := by simp [hc2, hc1, hl2, go_sem]
  have y1 : w2.cell? ⟨w.heap.size + 1, 1, none⟩ = some (.bool false) := by simp [hc2, hc1, hl2, go_sem]
  have y2 : w2.cell? ⟨w.heap.size + 1, 2, none⟩ = some (.bool false) := by simp [hc2, hc1, hl2, go_sem]
  have y3 : w2.cell? ⟨w.heap.size + 1, 3, none⟩ = some (.int .i64 0) := by simp [hc2, hc1, hl2, go_sem]
  have f0 : ∀ o, w2.frozen? ⟨w.heap.size, o, none⟩ = false := fun o => by simp [hf2, hf1, hl1, go_sem]
  have f1 : ∀ o, w2.frozen? ⟨w.heap.size + 1, o, none⟩ = false := fun o => by simp [hf2, hf1, hl2, go_sem]
  clear hdec hb1 hc1 hf1 hf2 hc2
  clear hE
  generalize hgg : (n - e) % 256 = dd at *
  by_cases hz : dd = 0
  · have ht : ¬ tk < 1000000 := fun h => hdd ⟨hz, h⟩
    subst hz
    first
      | (exfalso; revert b1; decide)
      | (exfalso; revert b2; decide)
      | skip
    all_goals
      go_wp2_with (go_at_call 62; refine (between_any _ _ _ _).mono ?_; rintro e w' ⟨rfl, rfl⟩)
      refine bodyPost_ret (v := recvV e false true tk [] false) (by simp [recvV, results, Try.results33, go_sem, ↓cell_some, y0, y1, y2, y3]) rfl ⟨rfl, ?_⟩
      repeat (refine Below.setCell ?_ (by simp) _)
      exact hB2
  · go_wp2_with (go_at_call 62; refine (between_any _ _ _ _).mono ?_; rintro e w' ⟨rfl, rfl⟩)
    refine bodyPost_ret (v := recvV e false true tk [] false) (by simp [recvV, results, Try.results33, go_sem, ↓cell_some, y0, y1, y2, y3]) rfl ⟨rfl, ?_⟩
    repeat (refine Below.setCell ?_ (by simp) _)
    exact hB2
set_option maxHeartbeats 1600000 in
theorem takeCommand6 (e : Int) (ag : Bool) (tk : Int) (n : Int) (d l : List UInt8) (w : World)
    (hdec : ∀ w, Calls Try.prog 43 #[.string ⟨l.toArray⟩] w fun r w' => r = .returned (.tuple #[.int .i64 0, .int .i64 n, .string ⟨d.toArray⟩, .bool true]) ∧ Below w.heap.size w w')
    (hro : recvOk e tk = true) (hn : 0 ≤ n ∧ n ≤ 255) (hdd : ¬ ((n - e + 256) % 256 = 0 ∧ tk < 1000000)) (b1 : inB ((n - e + 256) % 256) 1 40 = false) (b2 : inB ((n - e + 256) % 256) 41 215 = true) :
    Calls Try.prog 33 #[.agg #[.int .i64 e, .bool false, .bool ag, .int .i64 tk], .string ⟨l.toArray⟩] w fun r w' => r = .returned (recvV e true ag tk [] false) ∧ Below w.heap.size w w' := by
  obtain ⟨hp1, hp2⟩ := recvOk_parts hro
  have hx0 : 0 ≤ n - e + 256 := by omega
  have hx : (0 : Int) ≤ (n - e + 256) % 256 ∧ (n - e + 256) % 256 ≤ 255 := by omega
  have hm : (n - e + 256).tmod 256 = (n - e + 256) % 256 := Int.tmod_eq_emod_of_nonneg hx0
  have hm2 : (e + 1).tmod 256 = (e + 1) % 256 := Int.tmod_eq_emod_of_nonneg (by omega)
  have hE : (n - e + 256) % 256 = (n - e) % 256 := by omega
  rw [hE] at hdd hx hm
  rw [hE] at b1 b2
  go_enter Try.func33, Try.ntmps33
  go_wp2_with fail
  refine (hdec _).mono ?_
  rintro e w1 ⟨rfl, hb1⟩
  have hz1 := hb1.size
  have hB1 := (((Below.refl _ _).alloc (Nat.le_refl _) _).alloc (by simp) _).trans (hb1.mono (by simp; omega))
  simp only [World.size_alloc] at hz1
  obtain ⟨hc1, hf1⟩ := bcell hb1
  have hl1 : w.heap.size < w1.heap.size := by omega
  have hl2 : w.heap.size + 1 < w1.heap.size := by omega
  go_wp2_with fail
  refine (receiverOk_any _ _ _ _ _).mono ?_
  rintro e w2 ⟨rfl, hb2⟩
  have hB2 := below_step hB1 hb2
  have hz2 := hb2.size
  obtain ⟨hc2, hf2⟩ := bcell hb2
  have hl3 : w.heap.size < w2.heap.size := by omega
  have hl4 : w.heap.size + 1 < w2.heap.size := by omega
  have hle : w.heap.size ≤ w.heap.size + 1 := by omega
  have x0 : w2.cell? ⟨w.heap.size, 0, none⟩ = some (.int .i64 e) := by simp [hc2, hc1, hl1, go_sem]
  have x1 : w2.cell? ⟨w.heap.size, 1, none⟩ = some (.bool false) := by simp [hc2, hc1, hl1, go_sem]
  have x2 : w2.cell? ⟨w.heap.size, 2, none⟩ = some (.bool ag) := by simp [hc2, hc1, hl1, go_sem]
  have x3 : w2.cell? ⟨w.heap.size, 3, none⟩ = some (.int .i64 tk) := by simp [hc2, hc1, hl1, go_sem]
  have y0 : w2.cell? ⟨w.heap.size + 1, 0, none⟩ = some (.int .i64 0) := by simp [hc2, hc1, hl2, go_sem]
  have y1 : w2.cell? ⟨w.heap.size + 1, 1, none⟩ = some (.bool false) := by simp [hc2, hc1, hl2, go_sem]
  have y2 : w2.cell? ⟨w.heap.size + 1, 2, none⟩ = some (.bool false) := by simp [hc2, hc1, hl2, go_sem]
  have y3 : w2.cell? ⟨w.heap.size + 1, 3, none⟩ = some (.int .i64 0) := by simp [hc2, hc1, hl2, go_sem]
  have f0 : ∀ o, w2.frozen? ⟨w.heap.size, o, none⟩ = false := fun o => by simp [hf2, hf1, hl1, go_sem]
  have f1 : ∀ o, w2.frozen? ⟨w.heap.size + 1, o, none⟩ = false := fun o => by simp [hf2, hf1, hl2, go_sem]
  clear hdec hb1 hc1 hf1 hf2 hc2
  clear hE
  generalize hgg : (n - e) % 256 = dd at *
  by_cases hz : dd = 0
  · have ht : ¬ tk < 1000000 := fun h => hdd ⟨hz, h⟩
    subst hz
    first
      | (exfalso; revert b1; decide)
      | (exfalso; revert b2; decide)
      | skip
    all_goals
      go_wp2_with (go_at_call 62; refine (between_any _ _ _ _).mono ?_; rintro e w' ⟨rfl, rfl⟩)
      refine bodyPost_ret (v := recvV e true ag tk [] false) (by simp [recvV, results, Try.results33, go_sem, ↓cell_some, y0, y1, y2, y3]) rfl ⟨rfl, ?_⟩
      repeat (refine Below.setCell ?_ (by simp) _)
      exact hB2
  · go_wp2_with (go_at_call 62; refine (between_any _ _ _ _).mono ?_; rintro e w' ⟨rfl, rfl⟩)
    refine bodyPost_ret (v := recvV e true ag tk [] false) (by simp [recvV, results, Try.results33, go_sem, ↓cell_some, y0, y1, y2, y3]) rfl ⟨rfl, ?_⟩
    repeat (refine Below.setCell ?_ (by simp) _)
    exact hB2
set_option maxHeartbeats 1600000 in
theorem takeCommand7 (e : Int) (ag : Bool) (tk : Int) (n : Int) (d l : List UInt8) (w : World)
    (hdec : ∀ w, Calls Try.prog 43 #[.string ⟨l.toArray⟩] w fun r w' => r = .returned (.tuple #[.int .i64 0, .int .i64 n, .string ⟨d.toArray⟩, .bool true]) ∧ Below w.heap.size w w')
    (hro : recvOk e tk = true) (hn : 0 ≤ n ∧ n ≤ 255) (hdd : ¬ ((n - e + 256) % 256 = 0 ∧ tk < 1000000)) (b1 : inB ((n - e + 256) % 256) 1 40 = false) (b2 : inB ((n - e + 256) % 256) 41 215 = false) :
    Calls Try.prog 33 #[.agg #[.int .i64 e, .bool false, .bool ag, .int .i64 tk], .string ⟨l.toArray⟩] w fun r w' => r = .returned (recvV e false ag tk [] false) ∧ Below w.heap.size w w' := by
  obtain ⟨hp1, hp2⟩ := recvOk_parts hro
  have hx0 : 0 ≤ n - e + 256 := by omega
  have hx : (0 : Int) ≤ (n - e + 256) % 256 ∧ (n - e + 256) % 256 ≤ 255 := by omega
  have hm : (n - e + 256).tmod 256 = (n - e + 256) % 256 := Int.tmod_eq_emod_of_nonneg hx0
  have hm2 : (e + 1).tmod 256 = (e + 1) % 256 := Int.tmod_eq_emod_of_nonneg (by omega)
  have hE : (n - e + 256) % 256 = (n - e) % 256 := by omega
  rw [hE] at hdd hx hm
  rw [hE] at b1 b2
  go_enter Try.func33, Try.ntmps33
  go_wp2_with fail
  refine (hdec _).mono ?_
  rintro e w1 ⟨rfl, hb1⟩
  have hz1 := hb1.size
  have hB1 := (((Below.refl _ _).alloc (Nat.le_refl _) _).alloc (by simp) _).trans (hb1.mono (by simp; omega))
  simp only [World.size_alloc] at hz1
  obtain ⟨hc1, hf1⟩ := bcell hb1
  have hl1 : w.heap.size < w1.heap.size := by omega
  have hl2 : w.heap.size + 1 < w1.heap.size := by omega
  go_wp2_with fail
  refine (receiverOk_any _ _ _ _ _).mono ?_
  rintro e w2 ⟨rfl, hb2⟩
  have hB2 := below_step hB1 hb2
  have hz2 := hb2.size
  obtain ⟨hc2, hf2⟩ := bcell hb2
  have hl3 : w.heap.size < w2.heap.size := by omega
  have hl4 : w.heap.size + 1 < w2.heap.size := by omega
  have hle : w.heap.size ≤ w.heap.size + 1 := by omega
  have x0 : w2.cell? ⟨w.heap.size, 0, none⟩ = some (.int .i64 e) := by simp [hc2, hc1, hl1, go_sem]
  have x1 : w2.cell? ⟨w.heap.size, 1, none⟩ = some (.bool false) := by simp [hc2, hc1, hl1, go_sem]
  have x2 : w2.cell? ⟨w.heap.size, 2, none⟩ = some (.bool ag) := by simp [hc2, hc1, hl1, go_sem]
  have x3 : w2.cell? ⟨w.heap.size, 3, none⟩ = some (.int .i64 tk) := by simp [hc2, hc1, hl1, go_sem]
  have y0 : w2.cell? ⟨w.heap.size + 1, 0, none⟩ = some (.int .i64 0) := by simp [hc2, hc1, hl2, go_sem]
  have y1 : w2.cell? ⟨w.heap.size + 1, 1, none⟩ = some (.bool false) := by simp [hc2, hc1, hl2, go_sem]
  have y2 : w2.cell? ⟨w.heap.size + 1, 2, none⟩ = some (.bool false) := by simp [hc2, hc1, hl2, go_sem]
  have y3 : w2.cell? ⟨w.heap.size + 1, 3, none⟩ = some (.int .i64 0) := by simp [hc2, hc1, hl2, go_sem]
  have f0 : ∀ o, w2.frozen? ⟨w.heap.size, o, none⟩ = false := fun o => by simp [hf2, hf1, hl1, go_sem]
  have f1 : ∀ o, w2.frozen? ⟨w.heap.size + 1, o, none⟩ = false := fun o => by simp [hf2, hf1, hl2, go_sem]
  clear hdec hb1 hc1 hf1 hf2 hc2
  clear hE
  generalize hgg : (n - e) % 256 = dd at *
  by_cases hz : dd = 0
  · have ht : ¬ tk < 1000000 := fun h => hdd ⟨hz, h⟩
    subst hz
    first
      | (exfalso; revert b1; decide)
      | (exfalso; revert b2; decide)
      | skip
    all_goals
      go_wp2_with (go_at_call 62; refine (between_any _ _ _ _).mono ?_; rintro e w' ⟨rfl, rfl⟩)
      refine bodyPost_ret (v := recvV e false ag tk [] false) (by simp [recvV, results, Try.results33, go_sem, ↓cell_some, y0, y1, y2, y3]) rfl ⟨rfl, ?_⟩
      repeat (refine Below.setCell ?_ (by simp) _)
      exact hB2
  · go_wp2_with (go_at_call 62; refine (between_any _ _ _ _).mono ?_; rintro e w' ⟨rfl, rfl⟩)
    refine bodyPost_ret (v := recvV e false ag tk [] false) (by simp [recvV, results, Try.results33, go_sem, ↓cell_some, y0, y1, y2, y3]) rfl ⟨rfl, ?_⟩
    repeat (refine Below.setCell ?_ (by simp) _)
    exact hB2
theorem takeCommand_any (e : Int) (lk ag : Bool) (tk : Int) (l : List UInt8) (w : World) (hl : Txt l) :
    Calls Try.prog 33 #[.agg #[.int .i64 e, .bool lk, .bool ag, .int .i64 tk], .string ⟨l.toArray⟩] w fun r w' => r = .returned (tkV e lk ag tk (dcOk l) (dcK l) (dcN l) (dcD l)) ∧ Below w.heap.size w w' := by
  have hdec := fun w => decodeCommand_any l w hl
  obtain ⟨hk, hn⟩ := dc_ranges l
  generalize dcOk l = ok at *
  generalize dcK l = k at *
  generalize dcN l = n at *
  generalize dcD l = d at *
  unfold tkV
  by_cases h0 : recvOk e tk = false ∨ ok = false
  · rw [if_pos h0]; exact takeCommand1 e lk ag tk ok k n d l w hdec h0
  rw [if_neg h0]
  have hr : recvOk e tk = true := by cases h : recvOk e tk <;> simp_all
  have ho : ok = true := by cases h : ok <;> simp_all
  subst ho
  by_cases h1 : k = 1
  · subst h1; rw [if_pos rfl]; exact takeCommand2 e lk ag tk n d l w hdec hr
  rw [if_neg h1]
  have hk0 : k = 0 := hk.resolve_right h1
  subst hk0
  cases lk
  · rw [if_neg (by decide)]
    by_cases h2 : (n - e + 256) % 256 = 0 ∧ tk < 1000000
    · rw [if_pos h2]; exact takeCommand4 e ag tk n d l w hdec hr hn h2.1 h2.2
    rw [if_neg h2]
    cases b1 : inB ((n - e + 256) % 256) 1 40
    · cases b2 : inB ((n - e + 256) % 256) 41 215
      · rw [if_neg (by decide), if_neg (by decide)]; exact takeCommand7 e ag tk n d l w hdec hr hn h2 b1 b2
      · rw [if_neg (by decide), if_pos rfl]; exact takeCommand6 e ag tk n d l w hdec hr hn h2 b1 b2
    · have b2 : inB ((n - e + 256) % 256) 41 215 = false := by
        have := inB_true b1
        unfold inB; simp only [Bool.and_eq_false_iff, decide_eq_false_iff_not]; omega
      rw [if_pos rfl]; exact takeCommand5 e ag tk n d l w hdec hr hn h2 b1 b2
  · rw [if_pos rfl]; exact takeCommand3 e ag tk n d l w hdec hr
set_option maxHeartbeats 1600000 in
theorem sTakeCommand1 (e : Int) (lk ag : Bool) (tk : Int) (ok : Bool) (k n : Int) (d l : List UInt8) (w : World)
    (hdec : ∀ w, Calls Try.prog 42 #[.string ⟨l.toArray⟩] w fun r w' => r = .returned (.tuple #[.int .i64 k, .int .i64 n, .string ⟨d.toArray⟩, .bool ok]) ∧ Below w.heap.size w w')
    (hro : recvOk e tk = false ∨ ok = false) :
    Calls Try.prog 53 #[.agg #[.int .i64 e, .bool lk, .bool ag, .int .i64 tk], .string ⟨l.toArray⟩] w fun r w' => r = .returned (recvV e lk ag tk [] false) ∧ Below w.heap.size w w' := by
  go_enter Try.func53, Try.ntmps53
  go_wp2_with fail
  refine (hdec _).mono ?_
  rintro e w1 ⟨rfl, hb1⟩
  have hz1 := hb1.size
  have hB1 := (((Below.refl _ _).alloc (Nat.le_refl _) _).alloc (by simp) _).trans (hb1.mono (by simp; omega))
  simp only [World.size_alloc] at hz1
  obtain ⟨hc1, hf1⟩ := bcell hb1
  have hl1 : w.heap.size < w1.heap.size := by omega
  have hl2 : w.heap.size + 1 < w1.heap.size := by omega
  go_wp2_with fail
  refine (sReceiverOk_any _ _ _ _ _).mono ?_
  rintro e w2 ⟨rfl, hb2⟩
  have hB2 := below_step hB1 hb2
  have hz2 := hb2.size
  obtain ⟨hc2, hf2⟩ := bcell hb2
  have hl3 : w.heap.size < w2.heap.size := by omega
  have hl4 : w.heap.size + 1 < w2.heap.size := by omega
  have hle : w.heap.size ≤ w.heap.size + 1 := by omega
  have x0 : w2.cell? ⟨w.heap.size, 0, none⟩ = some (.int .i64 e) := by simp [hc2, hc1, hl1, go_sem]
  have x1 : w2.cell? ⟨w.heap.size, 1, none⟩ = some (.bool lk) := by simp [hc2, hc1, hl1, go_sem]
  have x2 : w2.cell? ⟨w.heap.size, 2, none⟩ = some (.bool ag) := by simp [hc2, hc1, hl1, go_sem]
  have x3 : w2.cell? ⟨w.heap.size, 3, none⟩ = some (.int .i64 tk) := by simp [hc2, hc1, hl1, go_sem]
  have y0 : w2.cell? ⟨w.heap.size + 1, 0, none⟩ = some (.int .i64 0) := by simp [hc2, hc1, hl2, go_sem]
  have y1 : w2.cell? ⟨w.heap.size + 1, 1, none⟩ = some (.bool false) := by simp [hc2, hc1, hl2, go_sem]
  have y2 : w2.cell? ⟨w.heap.size + 1, 2, none⟩ = some (.bool false) := by simp [hc2, hc1, hl2, go_sem]
  have y3 : w2.cell? ⟨w.heap.size + 1, 3, none⟩ = some (.int .i64 0) := by simp [hc2, hc1, hl2, go_sem]
  have f0 : ∀ o, w2.frozen? ⟨w.heap.size, o, none⟩ = false := fun o => by simp [hf2, hf1, hl1, go_sem]
  have f1 : ∀ o, w2.frozen? ⟨w.heap.size + 1, o, none⟩ = false := fun o => by simp [hf2, hf1, hl2, go_sem]
  clear hdec hb1 hc1 hf1 hf2 hc2
  by_cases hr : recvOk e tk = false
  · go_wp2
    refine bodyPost_ret (v := recvV e lk ag tk [] false) (by simp [recvV, results, Try.results53, go_sem, ↓cell_some, y0, y1, y2, y3]) rfl ⟨rfl, ?_⟩
    repeat (refine Below.setCell ?_ (by simp) _)
    exact hB2
  · have ho : ok = false := hro.resolve_left hr
    subst ho
    go_wp2
    refine bodyPost_ret (v := recvV e lk ag tk [] false) (by simp [recvV, results, Try.results53, go_sem, ↓cell_some, y0, y1, y2, y3]) rfl ⟨rfl, ?_⟩
    repeat (refine Below.setCell ?_ (by simp) _)
    exact hB2
set_option maxHeartbeats 1600000 in
theorem sTakeCommand2 (e : Int) (lk ag : Bool) (tk : Int) (n : Int) (d l : List UInt8) (w : World)
    (hdec : ∀ w, Calls Try.prog 42 #[.string ⟨l.toArray⟩] w fun r w' => r = .returned (.tuple #[.int .i64 1, .int .i64 n, .string ⟨d.toArray⟩, .bool true]) ∧ Below w.heap.size w w')
    (hro : recvOk e tk = true) :
    Calls Try.prog 53 #[.agg #[.int .i64 e, .bool lk, .bool ag, .int .i64 tk], .string ⟨l.toArray⟩] w fun r w' => r = .returned (recvV e false false tk [] false) ∧ Below w.heap.size w w' := by
  go_enter Try.func53, Try.ntmps53
  go_wp2_with fail
  refine (hdec _).mono ?_
  rintro e w1 ⟨rfl, hb1⟩
  have hz1 := hb1.size
  have hB1 := (((Below.refl _ _).alloc (Nat.le_refl _) _).alloc (by simp) _).trans (hb1.mono (by simp; omega))
  simp only [World.size_alloc] at hz1
  obtain ⟨hc1, hf1⟩ := bcell hb1
  have hl1 : w.heap.size < w1.heap.size := by omega
  have hl2 : w.heap.size + 1 < w1.heap.size := by omega
  go_wp2_with fail
  refine (sReceiverOk_any _ _ _ _ _).mono ?_
  rintro e w2 ⟨rfl, hb2⟩
  have hB2 := below_step hB1 hb2
  have hz2 := hb2.size
  obtain ⟨hc2, hf2⟩ := bcell hb2
  have hl3 : w.heap.size < w2.heap.size := by omega
  have hl4 : w.heap.size + 1 < w2.heap.size := by omega
  have hle : w.heap.size ≤ w.heap.size + 1 := by omega
  have x0 : w2.cell? ⟨w.heap.size, 0, none⟩ = some (.int .i64 e) := by simp [hc2, hc1, hl1, go_sem]
  have x1 : w2.cell? ⟨w.heap.size, 1, none⟩ = some (.bool lk) := by simp [hc2, hc1, hl1, go_sem]
  have x2 : w2.cell? ⟨w.heap.size, 2, none⟩ = some (.bool ag) := by simp [hc2, hc1, hl1, go_sem]
  have x3 : w2.cell? ⟨w.heap.size, 3, none⟩ = some (.int .i64 tk) := by simp [hc2, hc1, hl1, go_sem]
  have y0 : w2.cell? ⟨w.heap.size + 1, 0, none⟩ = some (.int .i64 0) := by simp [hc2, hc1, hl2, go_sem]
  have y1 : w2.cell? ⟨w.heap.size + 1, 1, none⟩ = some (.bool false) := by simp [hc2, hc1, hl2, go_sem]
  have y2 : w2.cell? ⟨w.heap.size + 1, 2, none⟩ = some (.bool false) := by simp [hc2, hc1, hl2, go_sem]
  have y3 : w2.cell? ⟨w.heap.size + 1, 3, none⟩ = some (.int .i64 0) := by simp [hc2, hc1, hl2, go_sem]
  have f0 : ∀ o, w2.frozen? ⟨w.heap.size, o, none⟩ = false := fun o => by simp [hf2, hf1, hl1, go_sem]
  have f1 : ∀ o, w2.frozen? ⟨w.heap.size + 1, o, none⟩ = false := fun o => by simp [hf2, hf1, hl2, go_sem]
  clear hdec hb1 hc1 hf1 hf2 hc2
  go_wp2
  refine bodyPost_ret (v := recvV e false false tk [] false) (by simp [recvV, results, Try.results53, go_sem, ↓cell_some, y0, y1, y2, y3]) rfl ⟨rfl, ?_⟩
  repeat (refine Below.setCell ?_ (by simp) _)
  exact hB2
set_option maxHeartbeats 1600000 in
theorem sTakeCommand3 (e : Int) (ag : Bool) (tk : Int) (n : Int) (d l : List UInt8) (w : World)
    (hdec : ∀ w, Calls Try.prog 42 #[.string ⟨l.toArray⟩] w fun r w' => r = .returned (.tuple #[.int .i64 0, .int .i64 n, .string ⟨d.toArray⟩, .bool true]) ∧ Below w.heap.size w w')
    (hro : recvOk e tk = true) :
    Calls Try.prog 53 #[.agg #[.int .i64 e, .bool true, .bool ag, .int .i64 tk], .string ⟨l.toArray⟩] w fun r w' => r = .returned (recvV e true ag tk [] false) ∧ Below w.heap.size w w' := by
  go_enter Try.func53, Try.ntmps53
  go_wp2_with fail
  refine (hdec _).mono ?_
  rintro e w1 ⟨rfl, hb1⟩
  have hz1 := hb1.size
  have hB1 := (((Below.refl _ _).alloc (Nat.le_refl _) _).alloc (by simp) _).trans (hb1.mono (by simp; omega))
  simp only [World.size_alloc] at hz1
  obtain ⟨hc1, hf1⟩ := bcell hb1
  have hl1 : w.heap.size < w1.heap.size := by omega
  have hl2 : w.heap.size + 1 < w1.heap.size := by omega
  go_wp2_with fail
  refine (sReceiverOk_any _ _ _ _ _).mono ?_
  rintro e w2 ⟨rfl, hb2⟩
  have hB2 := below_step hB1 hb2
  have hz2 := hb2.size
  obtain ⟨hc2, hf2⟩ := bcell hb2
  have hl3 : w.heap.size < w2.heap.size := by omega
  have hl4 : w.heap.size + 1 < w2.heap.size := by omega
  have hle : w.heap.size ≤ w.heap.size + 1 := by omega
  have x0 : w2.cell? ⟨w.heap.size, 0, none⟩ = some (.int .i64 e) := by simp [hc2, hc1, hl1, go_sem]
  have x1 : w2.cell? ⟨w.heap.size, 1, none⟩ = some (.bool true) := by simp [hc2, hc1, hl1, go_sem]
  have x2 : w2.cell? ⟨w.heap.size, 2, none⟩ = some (.bool ag) := by simp [hc2, hc1, hl1, go_sem]
  have x3 : w2.cell? ⟨w.heap.size, 3, none⟩ = some (.int .i64 tk) := by simp [hc2, hc1, hl1, go_sem]
  have y0 : w2.cell? ⟨w.heap.size + 1, 0, none⟩ = some (.int .i64 0) := by simp [hc2, hc1, hl2, go_sem]
  have y1 : w2.cell? ⟨w.heap.size + 1, 1, none⟩ = some (.bool false) := by simp [hc2, hc1, hl2, go_sem]
  have y2 : w2.cell? ⟨w.heap.size + 1, 2, none⟩ = some (.bool false) := by simp [hc2, hc1, hl2, go_sem]
  have y3 : w2.cell? ⟨w.heap.size + 1, 3, none⟩ = some (.int .i64 0) := by simp [hc2, hc1, hl2, go_sem]
  have f0 : ∀ o, w2.frozen? ⟨w.heap.size, o, none⟩ = false := fun o => by simp [hf2, hf1, hl1, go_sem]
  have f1 : ∀ o, w2.frozen? ⟨w.heap.size + 1, o, none⟩ = false := fun o => by simp [hf2, hf1, hl2, go_sem]
  clear hdec hb1 hc1 hf1 hf2 hc2
  go_wp2
  refine bodyPost_ret (v := recvV e true ag tk [] false) (by simp [recvV, results, Try.results53, go_sem, ↓cell_some, y0, y1, y2, y3]) rfl ⟨rfl, ?_⟩
  repeat (refine Below.setCell ?_ (by simp) _)
  exact hB2
set_option maxHeartbeats 1600000 in
theorem sTakeCommand4 (e : Int) (ag : Bool) (tk : Int) (n : Int) (d l : List UInt8) (w : World)
    (hdec : ∀ w, Calls Try.prog 42 #[.string ⟨l.toArray⟩] w fun r w' => r = .returned (.tuple #[.int .i64 0, .int .i64 n, .string ⟨d.toArray⟩, .bool true]) ∧ Below w.heap.size w w')
    (hro : recvOk e tk = true) (hn : 0 ≤ n ∧ n ≤ 255) (hdd : (n - e + 256) % 256 = 0) (ht : tk < 1000000) :
    Calls Try.prog 53 #[.agg #[.int .i64 e, .bool false, .bool ag, .int .i64 tk], .string ⟨l.toArray⟩] w fun r w' => r = .returned (recvV ((e + 1) % 256) false false (tk + 1) d true) ∧ Below w.heap.size w w' := by
  obtain ⟨hp1, hp2⟩ := recvOk_parts hro
  have hx0 : 0 ≤ n - e + 256 := by omega
  have hx : (0 : Int) ≤ (n - e + 256) % 256 ∧ (n - e + 256) % 256 ≤ 255 := by omega
  have hm : (n - e + 256).tmod 256 = (n - e + 256) % 256 := Int.tmod_eq_emod_of_nonneg hx0
  have hm2 : (e + 1).tmod 256 = (e + 1) % 256 := Int.tmod_eq_emod_of_nonneg (by omega)
  have hE : (n - e + 256) % 256 = (n - e) % 256 := by omega
  rw [hE] at hdd hx hm
  go_enter Try.func53, Try.ntmps53
  go_wp2_with fail
  refine (hdec _).mono ?_
  rintro e w1 ⟨rfl, hb1⟩
  have hz1 := hb1.size
  have hB1 := (((Below.refl _ _).alloc (Nat.le_refl _) _).alloc (by simp) _).trans (hb1.mono (by simp; omega))
  simp only [World.size_alloc] at hz1
  obtain ⟨hc1, hf1⟩ := bcell hb1
  have hl1 : w.heap.size < w1.heap.size := by omega
  have hl2 : w.heap.size + 1 < w1.heap.size := by omega
  go_wp2_with fail
  refine (sReceiverOk_any _ _ _ _ _).mono ?_
  rintro e w2 ⟨rfl, hb2⟩
  have hB2 := below_step hB1 hb2
  have hz2 := hb2.size
  obtain ⟨hc2, hf2⟩ := bcell hb2
  have hl3 : w.heap.size < w2.heap.size := by omega
  have hl4 : w.heap.size + 1 < w2.heap.size := by omega
  have hle : w.heap.size ≤ w.heap.size + 1 := by omega
  have x0 : w2.cell? ⟨w.heap.size, 0, none⟩ = some (.int .i64 e) := by simp [hc2, hc1, hl1, go_sem]
  have x1 : w2.cell? ⟨w.heap.size, 1, none⟩ = some (.bool false) := by simp [hc2, hc1, hl1, go_sem]
  have x2 : w2.cell? ⟨w.heap.size, 2, none⟩ = some (.bool ag) := by simp [hc2, hc1, hl1, go_sem]
  have x3 : w2.cell? ⟨w.heap.size, 3, none⟩ = some (.int .i64 tk) := by simp [hc2, hc1, hl1, go_sem]
  have y0 : w2.cell? ⟨w.heap.size + 1, 0, none⟩ = some (.int .i64 0) := by simp [hc2, hc1, hl2, go_sem]
  have y1 : w2.cell? ⟨w.heap.size + 1, 1, none⟩ = some (.bool false) := by simp [hc2, hc1, hl2, go_sem]
  have y2 : w2.cell? ⟨w.heap.size + 1, 2, none⟩ = some (.bool false) := by simp [hc2, hc1, hl2, go_sem]
  have y3 : w2.cell? ⟨w.heap.size + 1, 3, none⟩ = some (.int .i64 0) := by simp [hc2, hc1, hl2, go_sem]
  have f0 : ∀ o, w2.frozen? ⟨w.heap.size, o, none⟩ = false := fun o => by simp [hf2, hf1, hl1, go_sem]
  have f1 : ∀ o, w2.frozen? ⟨w.heap.size + 1, o, none⟩ = false := fun o => by simp [hf2, hf1, hl2, go_sem]
  clear hdec hb1 hc1 hf1 hf2 hc2
  have r0 : ∀ v, (w2.setCell ⟨w.heap.size, 0, none⟩ v).cell? ⟨w.heap.size, 0, none⟩ = some v := fun v => World.cell?_setCell_same' _ _ _ (by rw [x0]; rfl)
  have r3 : ∀ u v, ((w2.setCell ⟨w.heap.size, 0, none⟩ u).setCell ⟨w.heap.size, 3, none⟩ v).cell? ⟨w.heap.size, 3, none⟩ = some v := fun u v => World.cell?_setCell_same' _ _ _ (by simp [go_sem, x3])
  have r2 : ∀ u v x, (((w2.setCell ⟨w.heap.size, 0, none⟩ u).setCell ⟨w.heap.size, 3, none⟩ v).setCell ⟨w.heap.size, 2, none⟩ x).cell? ⟨w.heap.size, 2, none⟩ = some x := fun u v x => World.cell?_setCell_same' _ _ _ (by simp [go_sem, x2])
  go_wp2
  refine bodyPost_ret (v := recvV ((e + 1) % 256) false false (tk + 1) d true) (by simp [recvV, results, Try.results53, go_sem, ↓cell_some, y0, y1, y2, y3]) rfl ⟨rfl, ?_⟩
  repeat (refine Below.setCell ?_ (by simp) _)
  exact hB2
set_option maxHeartbeats 1600000 in
theorem sTakeCommand5 (e : Int) (ag : Bool) (tk : Int) (n : Int) (d l : List UInt8) (w : World)
    (hdec : ∀ w, Calls Try.prog 42 #[.string ⟨l.toArray⟩] w fun r w' => r = .returned (.tuple #[.int .i64 0, .int .i64 n, .string ⟨d.toArray⟩, .bool true]) ∧ Below w.heap.size w w')
    (hro : recvOk e tk = true) (hn : 0 ≤ n ∧ n ≤ 255) (hdd : ¬ ((n - e + 256) % 256 = 0 ∧ tk < 1000000)) (b1 : inB ((n - e + 256) % 256) 1 40 = true) (b2 : inB ((n - e + 256) % 256) 41 215 = false) :
    Calls Try.prog 53 #[.agg #[.int .i64 e, .bool false, .bool ag, .int .i64 tk], .string ⟨l.toArray⟩] w fun r w' => r = .returned (recvV e false true tk [] false) ∧ Below w.heap.size w w' := by
  obtain ⟨hp1, hp2⟩ := recvOk_parts hro
  have hx0 : 0 ≤ n - e + 256 := by omega
  have hx : (0 : Int) ≤ (n - e + 256) % 256 ∧ (n - e + 256) % 256 ≤ 255 := by omega
  have hm : (n - e + 256).tmod 256 = (n - e + 256) % 256 := Int.tmod_eq_emod_of_nonneg hx0
  have hm2 : (e + 1).tmod 256 = (e + 1) % 256 := Int.tmod_eq_emod_of_nonneg (by omega)
  have hE : (n - e + 256) % 256 = (n - e) % 256 := by omega
  rw [hE] at hdd hx hm
  rw [hE] at b1 b2
  go_enter Try.func53, Try.ntmps53
  go_wp2_with fail
  refine (hdec _).mono ?_
  rintro e w1 ⟨rfl, hb1⟩
  have hz1 := hb1.size
  have hB1 := (((Below.refl _ _).alloc (Nat.le_refl _) _).alloc (by simp) _).trans (hb1.mono (by simp; omega))
  simp only [World.size_alloc] at hz1
  obtain ⟨hc1, hf1⟩ := bcell hb1
  have hl1 : w.heap.size < w1.heap.size := by omega
  have hl2 : w.heap.size + 1 < w1.heap.size := by omega
  go_wp2_with fail
  refine (sReceiverOk_any _ _ _ _ _).mono ?_
  rintro e w2 ⟨rfl, hb2⟩
  have hB2 := below_step hB1 hb2
  have hz2 := hb2.size
  obtain ⟨hc2, hf2⟩ := bcell hb2
  have hl3 : w.heap.size < w2.heap.size := by omega
  have hl4 : w.heap.size + 1 < w2.heap.size := by omega
  have hle : w.heap.size ≤ w.heap.size + 1 := by omega
  have x0 : w2.cell? ⟨w.heap.size, 0, none⟩ = some (.int .i64 e) := by simp [hc2, hc1, hl1, go_sem]
  have x1 : w2.cell? ⟨w.heap.size, 1, none⟩ = some (.bool false) := by simp [hc2, hc1, hl1, go_sem]
  have x2 : w2.cell? ⟨w.heap.size, 2, none⟩ = some (.bool ag) := by simp [hc2, hc1, hl1, go_sem]
  have x3 : w2.cell? ⟨w.heap.size, 3, none⟩ = some (.int .i64 tk) := by simp [hc2, hc1, hl1, go_sem]
  have y0 : w2.cell? ⟨w.heap.size + 1, 0, none⟩ = some (.int .i64 0) := by simp [hc2, hc1, hl2, go_sem]
  have y1 : w2.cell? ⟨w.heap.size + 1, 1, none⟩ = some (.bool false) := by simp [hc2, hc1, hl2, go_sem]
  have y2 : w2.cell? ⟨w.heap.size + 1, 2, none⟩ = some (.bool false) := by simp [hc2, hc1, hl2, go_sem]
  have y3 : w2.cell? ⟨w.heap.size + 1, 3, none⟩ = some (.int .i64 0) := by simp [hc2, hc1, hl2, go_sem]
  have f0 : ∀ o, w2.frozen? ⟨w.heap.size, o, none⟩ = false := fun o => by simp [hf2, hf1, hl1, go_sem]
  have f1 : ∀ o, w2.frozen? ⟨w.heap.size + 1, o, none⟩ = false := fun o => by simp [hf2, hf1, hl2, go_sem]
  clear hdec hb1 hc1 hf1 hf2 hc2
  clear hE
  generalize hgg : (n - e) % 256 = dd at *
  by_cases hz : dd = 0
  · have ht : ¬ tk < 1000000 := fun h => hdd ⟨hz, h⟩
    subst hz
    first
      | (exfalso; revert b1; decide)
      | (exfalso; revert b2; decide)
      | skip
    all_goals
      go_wp2_with (go_at_call 61; refine (l01In_any _ _ _ _).mono ?_; rintro e w' ⟨rfl, rfl⟩)
      refine bodyPost_ret (v := recvV e false true tk [] false) (by simp [recvV, results, Try.results53, go_sem, ↓cell_some, y0, y1, y2, y3]) rfl ⟨rfl, ?_⟩
      repeat (refine Below.setCell ?_ (by simp) _)
      exact hB2
  · go_wp2_with (go_at_call 61; refine (l01In_any _ _ _ _).mono ?_; rintro e w' ⟨rfl, rfl⟩)
    refine bodyPost_ret (v := recvV e false true tk [] false) (by simp [recvV, results, Try.results53, go_sem, ↓cell_some, y0, y1, y2, y3]) rfl ⟨rfl, ?_⟩
    repeat (refine Below.setCell ?_ (by simp) _)
    exact hB2
set_option maxHeartbeats 1600000 in
theorem sTakeCommand6 (e : Int) (ag : Bool) (tk : Int) (n : Int) (d l : List UInt8) (w : World)
    (hdec : ∀ w, Calls Try.prog 42 #[.string ⟨l.toArray⟩] w fun r w' => r = .returned (.tuple #[.int .i64 0, .int .i64 n, .string ⟨d.toArray⟩, .bool true]) ∧ Below w.heap.size w w')
    (hro : recvOk e tk = true) (hn : 0 ≤ n ∧ n ≤ 255) (hdd : ¬ ((n - e + 256) % 256 = 0 ∧ tk < 1000000)) (b1 : inB ((n - e + 256) % 256) 1 40 = false) (b2 : inB ((n - e + 256) % 256) 41 215 = true) :
    Calls Try.prog 53 #[.agg #[.int .i64 e, .bool false, .bool ag, .int .i64 tk], .string ⟨l.toArray⟩] w fun r w' => r = .returned (recvV e true ag tk [] false) ∧ Below w.heap.size w w' := by
  obtain ⟨hp1, hp2⟩ := recvOk_parts hro
  have hx0 : 0 ≤ n - e + 256 := by omega
  have hx : (0 : Int) ≤ (n - e + 256) % 256 ∧ (n - e + 256) % 256 ≤ 255 := by omega
  have hm : (n - e + 256).tmod 256 = (n - e + 256) % 256 := Int.tmod_eq_emod_of_nonneg hx0
  have hm2 : (e + 1).tmod 256 = (e + 1) % 256 := Int.tmod_eq_emod_of_nonneg (by omega)
  have hE : (n - e + 256) % 256 = (n - e) % 256 := by omega
  rw [hE] at hdd hx hm
  rw [hE] at b1 b2
  go_enter Try.func53, Try.ntmps53
  go_wp2_with fail
  refine (hdec _).mono ?_
  rintro e w1 ⟨rfl, hb1⟩
  have hz1 := hb1.size
  have hB1 := (((Below.refl _ _).alloc (Nat.le_refl _) _).alloc (by simp) _).trans (hb1.mono (by simp; omega))
  simp only [World.size_alloc] at hz1
  obtain ⟨hc1, hf1⟩ := bcell hb1
  have hl1 : w.heap.size < w1.heap.size := by omega
  have hl2 : w.heap.size + 1 < w1.heap.size := by omega
  go_wp2_with fail
  refine (sReceiverOk_any _ _ _ _ _).mono ?_
  rintro e w2 ⟨rfl, hb2⟩
  have hB2 := below_step hB1 hb2
  have hz2 := hb2.size
  obtain ⟨hc2, hf2⟩ := bcell hb2
  have hl3 : w.heap.size < w2.heap.size := by omega
  have hl4 : w.heap.size + 1 < w2.heap.size := by omega
  have hle : w.heap.size ≤ w.heap.size + 1 := by omega
  have x0 : w2.cell? ⟨w.heap.size, 0, none⟩ = some (.int .i64 e) := by simp [hc2, hc1, hl1, go_sem]
  have x1 : w2.cell? ⟨w.heap.size, 1, none⟩ = some (.bool false) := by simp [hc2, hc1, hl1, go_sem]
  have x2 : w2.cell? ⟨w.heap.size, 2, none⟩ = some (.bool ag) := by simp [hc2, hc1, hl1, go_sem]
  have x3 : w2.cell? ⟨w.heap.size, 3, none⟩ = some (.int .i64 tk) := by simp [hc2, hc1, hl1, go_sem]
  have y0 : w2.cell? ⟨w.heap.size + 1, 0, none⟩ = some (.int .i64 0) := by simp [hc2, hc1, hl2, go_sem]
  have y1 : w2.cell? ⟨w.heap.size + 1, 1, none⟩ = some (.bool false) := by simp [hc2, hc1, hl2, go_sem]
  have y2 : w2.cell? ⟨w.heap.size + 1, 2, none⟩ = some (.bool false) := by simp [hc2, hc1, hl2, go_sem]
  have y3 : w2.cell? ⟨w.heap.size + 1, 3, none⟩ = some (.int .i64 0) := by simp [hc2, hc1, hl2, go_sem]
  have f0 : ∀ o, w2.frozen? ⟨w.heap.size, o, none⟩ = false := fun o => by simp [hf2, hf1, hl1, go_sem]
  have f1 : ∀ o, w2.frozen? ⟨w.heap.size + 1, o, none⟩ = false := fun o => by simp [hf2, hf1, hl2, go_sem]
  clear hdec hb1 hc1 hf1 hf2 hc2
  clear hE
  generalize hgg : (n - e) % 256 = dd at *
  by_cases hz : dd = 0
  · have ht : ¬ tk < 1000000 := fun h => hdd ⟨hz, h⟩
    subst hz
    first
      | (exfalso; revert b1; decide)
      | (exfalso; revert b2; decide)
      | skip
    all_goals
      go_wp2_with (go_at_call 61; refine (l01In_any _ _ _ _).mono ?_; rintro e w' ⟨rfl, rfl⟩)
      refine bodyPost_ret (v := recvV e true ag tk [] false) (by simp [recvV, results, Try.results53, go_sem, ↓cell_some, y0, y1, y2, y3]) rfl ⟨rfl, ?_⟩
      repeat (refine Below.setCell ?_ (by simp) _)
      exact hB2
  · go_wp2_with (go_at_call 61; refine (l01In_any _ _ _ _).mono ?_; rintro e w' ⟨rfl, rfl⟩)
    refine bodyPost_ret (v := recvV e true ag tk [] false) (by simp [recvV, results, Try.results53, go_sem, ↓cell_some, y0, y1, y2, y3]) rfl ⟨rfl, ?_⟩
    repeat (refine Below.setCell ?_ (by simp) _)
    exact hB2
set_option maxHeartbeats 1600000 in
theorem sTakeCommand7 (e : Int) (ag : Bool) (tk : Int) (n : Int) (d l : List UInt8) (w : World)
    (hdec : ∀ w, Calls Try.prog 42 #[.string ⟨l.toArray⟩] w fun r w' => r = .returned (.tuple #[.int .i64 0, .int .i64 n, .string ⟨d.toArray⟩, .bool true]) ∧ Below w.heap.size w w')
    (hro : recvOk e tk = true) (hn : 0 ≤ n ∧ n ≤ 255) (hdd : ¬ ((n - e + 256) % 256 = 0 ∧ tk < 1000000)) (b1 : inB ((n - e + 256) % 256) 1 40 = false) (b2 : inB ((n - e + 256) % 256) 41 215 = false) :
    Calls Try.prog 53 #[.agg #[.int .i64 e, .bool false, .bool ag, .int .i64 tk], .string ⟨l.toArray⟩] w fun r w' => r = .returned (recvV e false ag tk [] false) ∧ Below w.heap.size w w' := by
  obtain ⟨hp1, hp2⟩ := recvOk_parts hro
  have hx0 : 0 ≤ n - e + 256 := by omega
  have hx : (0 : Int) ≤ (n - e + 256) % 256 ∧ (n - e + 256) % 256 ≤ 255 := by omega
  have hm : (n - e + 256).tmod 256 = (n - e + 256) % 256 := Int.tmod_eq_emod_of_nonneg hx0
  have hm2 : (e + 1).tmod 256 = (e + 1) % 256 := Int.tmod_eq_emod_of_nonneg (by omega)
  have hE : (n - e + 256) % 256 = (n - e) % 256 := by omega
  rw [hE] at hdd hx hm
  rw [hE] at b1 b2
  go_enter Try.func53, Try.ntmps53
  go_wp2_with fail
  refine (hdec _).mono ?_
  rintro e w1 ⟨rfl, hb1⟩
  have hz1 := hb1.size
  have hB1 := (((Below.refl _ _).alloc (Nat.le_refl _) _).alloc (by simp) _).trans (hb1.mono (by simp; omega))
  simp only [World.size_alloc] at hz1
  obtain ⟨hc1, hf1⟩ := bcell hb1
  have hl1 : w.heap.size < w1.heap.size := by omega
  have hl2 : w.heap.size + 1 < w1.heap.size := by omega
  go_wp2_with fail
  refine (sReceiverOk_any _ _ _ _ _).mono ?_
  rintro e w2 ⟨rfl, hb2⟩
  have hB2 := below_step hB1 hb2
  have hz2 := hb2.size
  obtain ⟨hc2, hf2⟩ := bcell hb2
  have hl3 : w.heap.size < w2.heap.size := by omega
  have hl4 : w.heap.size + 1 < w2.heap.size := by omega
  have hle : w.heap.size ≤ w.heap.size + 1 := by omega
  have x0 : w2.cell? ⟨w.heap.size, 0, none⟩ = some (.int .i64 e) := by simp [hc2, hc1, hl1, go_sem]
  have x1 : w2.cell? ⟨w.heap.size, 1, none⟩ = some (.bool false) := by simp [hc2, hc1, hl1, go_sem]
  have x2 : w2.cell? ⟨w.heap.size, 2, none⟩ = some (.bool ag) := by simp [hc2, hc1, hl1, go_sem]
  have x3 : w2.cell? ⟨w.heap.size, 3, none⟩ = some (.int .i64 tk) := by simp [hc2, hc1, hl1, go_sem]
  have y0 : w2.cell? ⟨w.heap.size + 1, 0, none⟩ = some (.int .i64 0) := by simp [hc2, hc1, hl2, go_sem]
  have y1 : w2.cell? ⟨w.heap.size + 1, 1, none⟩ = some (.bool false) := by simp [hc2, hc1, hl2, go_sem]
  have y2 : w2.cell? ⟨w.heap.size + 1, 2, none⟩ = some (.bool false) := by simp [hc2, hc1, hl2, go_sem]
  have y3 : w2.cell? ⟨w.heap.size + 1, 3, none⟩ = some (.int .i64 0) := by simp [hc2, hc1, hl2, go_sem]
  have f0 : ∀ o, w2.frozen? ⟨w.heap.size, o, none⟩ = false := fun o => by simp [hf2, hf1, hl1, go_sem]
  have f1 : ∀ o, w2.frozen? ⟨w.heap.size + 1, o, none⟩ = false := fun o => by simp [hf2, hf1, hl2, go_sem]
  clear hdec hb1 hc1 hf1 hf2 hc2
  clear hE
  generalize hgg : (n - e) % 256 = dd at *
  by_cases hz : dd = 0
  · have ht : ¬ tk < 1000000 := fun h => hdd ⟨hz, h⟩
    subst hz
    first
      | (exfalso; revert b1; decide)
      | (exfalso; revert b2; decide)
      | skip
    all_goals
      go_wp2_with (go_at_call 61; refine (l01In_any _ _ _ _).mono ?_; rintro e w' ⟨rfl, rfl⟩)
      refine bodyPost_ret (v := recvV e false ag tk [] false) (by simp [recvV, results, Try.results53, go_sem, ↓cell_some, y0, y1, y2, y3]) rfl ⟨rfl, ?_⟩
      repeat (refine Below.setCell ?_ (by simp) _)
      exact hB2
  · go_wp2_with (go_at_call 61; refine (l01In_any _ _ _ _).mono ?_; rintro e w' ⟨rfl, rfl⟩)
    refine bodyPost_ret (v := recvV e false ag tk [] false) (by simp [recvV, results, Try.results53, go_sem, ↓cell_some, y0, y1, y2, y3]) rfl ⟨rfl, ?_⟩
    repeat (refine Below.setCell ?_ (by simp) _)
    exact hB2
theorem sTakeCommand_any (e : Int) (lk ag : Bool) (tk : Int) (l : List UInt8) (w : World) (hl : Txt l) :
    Calls Try.prog 53 #[.agg #[.int .i64 e, .bool lk, .bool ag, .int .i64 tk], .string ⟨l.toArray⟩] w fun r w' => r = .returned (tkV e lk ag tk (dcOk l) (dcK l) (dcN l) (dcD l)) ∧ Below w.heap.size w w' := by
  have hdec := fun w => sDecodeCommand_any l w hl
  obtain ⟨hk, hn⟩ := dc_ranges l
  generalize dcOk l = ok at *
  generalize dcK l = k at *
  generalize dcN l = n at *
  generalize dcD l = d at *
  unfold tkV
  by_cases h0 : recvOk e tk = false ∨ ok = false
  · rw [if_pos h0]; exact sTakeCommand1 e lk ag tk ok k n d l w hdec h0
  rw [if_neg h0]
  have hr : recvOk e tk = true := by cases h : recvOk e tk <;> simp_all
  have ho : ok = true := by cases h : ok <;> simp_all
  subst ho
  by_cases h1 : k = 1
  · subst h1; rw [if_pos rfl]; exact sTakeCommand2 e lk ag tk n d l w hdec hr
  rw [if_neg h1]
  have hk0 : k = 0 := hk.resolve_right h1
  subst hk0
  cases lk
  · rw [if_neg (by decide)]
    by_cases h2 : (n - e + 256) % 256 = 0 ∧ tk < 1000000
    · rw [if_pos h2]; exact sTakeCommand4 e ag tk n d l w hdec hr hn h2.1 h2.2
    rw [if_neg h2]
    cases b1 : inB ((n - e + 256) % 256) 1 40
    · cases b2 : inB ((n - e + 256) % 256) 41 215
      · rw [if_neg (by decide), if_neg (by decide)]; exact sTakeCommand7 e ag tk n d l w hdec hr hn h2 b1 b2
      · rw [if_neg (by decide), if_pos rfl]; exact sTakeCommand6 e ag tk n d l w hdec hr hn h2 b1 b2
    · have b2 : inB ((n - e + 256) % 256) 41 215 = false := by
        have := inB_true b1
        unfold inB; simp only [Bool.and_eq_false_iff, decide_eq_false_iff_not]; omega
      rw [if_pos rfl]; exact sTakeCommand5 e ag tk n d l w hdec hr hn h2 b1 b2
  · rw [if_pos rfl]; exact sTakeCommand3 e ag tk n d l w hdec hr
end Go.Proofs.Ytpnejmlbfadaaaa
