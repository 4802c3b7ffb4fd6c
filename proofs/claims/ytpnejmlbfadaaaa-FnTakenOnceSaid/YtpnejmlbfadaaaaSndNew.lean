/- Contracts: a new sender of commands, in the program and in the reference. No condition. -/
import Derived.Test.YtpnejmlbfadaaaaSndOk
namespace Go.Proofs.Ytpnejmlbfadaaaa
open Go.RowKit

theorem sndOk_new (wd : Int) : sndOk 0 wd [] 0 = inB wd 1 20 := by
  unfold sndOk sndPre okTo
  cases h : inB wd 1 20
  · simp
  · have := inB_true h
    simp [inB]
    omega
def newV (ok : Bool) (wd : Int) : Value := .tuple #[.agg #[.int .i64 0, .int .i64 (if ok then wd else 0), .slice none 0 0, .int .i64 0], .bool ok]
theorem newSender_any (wd : Int) (w : World) :
    Calls Try.prog 27 #[.int .i64 wd] w fun e w' => e = .returned (newV (inB wd 1 20) wd) ∧ Below w.heap.size w w' := by
  have hok := fun w => senderOk_any 0 wd none 0 0 [] 0 w rfl (by omega) (by simp) Rd.nil_
  rw [sndOk_new] at hok
  cases h : inB wd 1 20
  · rw [h] at hok
    go_enter Try.func27, Try.ntmps27
    go_wp2_with fail
    refine (hok _).mono ?_
    rintro e w2 ⟨rfl, hb2⟩
    obtain ⟨hc2, hf2⟩ := bcell hb2
    have hz2 := hb2.size
    simp only [World.size_alloc] at hz2
    have hl1 : w.heap.size < w2.heap.size := by omega
    have hl2 : w.heap.size + 1 < w2.heap.size := by omega
    have x0 : w2.cell? ⟨w.heap.size, 0, none⟩ = some (.int .i64 0) := by simp [hc2, go_sem]
    have x1 : w2.cell? ⟨w.heap.size, 1, none⟩ = some (.int .i64 0) := by simp [hc2, go_sem]
    have x2 : w2.cell? ⟨w.heap.size, 2, none⟩ = some (.slice none 0 0) := by simp [hc2, go_sem]
    have x3 : w2.cell? ⟨w.heap.size, 3, none⟩ = some (.int .i64 0) := by simp [hc2, go_sem]
    have hB2 := (((Below.refl _ _).alloc (Nat.le_refl _) _).alloc (by simp) _).trans (hb2.mono (by simp; omega))
    go_wp2
    refine bodyPost_ret (v := newV false wd) (by simp [newV, results, Try.results27, go_sem, ↓cell_some, x0, x1, x2, x3]) rfl ⟨rfl, ?_⟩
    repeat (refine Below.setCell ?_ (by simp) _)
    exact hB2
  · rw [h] at hok
    go_enter Try.func27, Try.ntmps27
    go_wp2_with fail
    refine (hok _).mono ?_
    rintro e w2 ⟨rfl, hb2⟩
    obtain ⟨hc2, hf2⟩ := bcell hb2
    have hz2 := hb2.size
    simp only [World.size_alloc] at hz2
    have hl1 : w.heap.size < w2.heap.size := by omega
    have hl2 : w.heap.size + 1 < w2.heap.size := by omega
    have x0 : w2.cell? ⟨w.heap.size, 0, none⟩ = some (.int .i64 0) := by simp [hc2, go_sem]
    have x1 : w2.cell? ⟨w.heap.size, 1, none⟩ = some (.int .i64 0) := by simp [hc2, go_sem]
    have x2 : w2.cell? ⟨w.heap.size, 2, none⟩ = some (.slice none 0 0) := by simp [hc2, go_sem]
    have x3 : w2.cell? ⟨w.heap.size, 3, none⟩ = some (.int .i64 0) := by simp [hc2, go_sem]
    have hB2 := (((Below.refl _ _).alloc (Nat.le_refl _) _).alloc (by simp) _).trans (hb2.mono (by simp; omega))
    go_wp2
    refine bodyPost_ret (v := newV true wd) (by simp [newV, results, Try.results27, go_sem, ↓cell_some, x0, x1, x2, x3]) rfl ⟨rfl, ?_⟩
    repeat (refine Below.setCell ?_ (by simp) _)
    exact hB2
theorem sNewSender_any (wd : Int) (w : World) :
    Calls Try.prog 48 #[.int .i64 wd] w fun e w' => e = .returned (newV (inB wd 1 20) wd) ∧ Below w.heap.size w w' := by
  have hok := fun w => sSenderOk_any 0 wd none 0 0 [] 0 w rfl (by omega) (by simp) Rd.nil_
  rw [sndOk_new] at hok
  cases h : inB wd 1 20
  · rw [h] at hok
    go_enter Try.func48, Try.ntmps48
    go_wp2_with fail
    refine (hok _).mono ?_
    rintro e w2 ⟨rfl, hb2⟩
    obtain ⟨hc2, hf2⟩ := bcell hb2
    have hz2 := hb2.size
    simp only [World.size_alloc] at hz2
    have hl1 : w.heap.size < w2.heap.size := by omega
    have hl2 : w.heap.size + 1 < w2.heap.size := by omega
    have x0 : w2.cell? ⟨w.heap.size, 0, none⟩ = some (.int .i64 0) := by simp [hc2, go_sem]
    have x1 : w2.cell? ⟨w.heap.size, 1, none⟩ = some (.int .i64 0) := by simp [hc2, go_sem]
    have x2 : w2.cell? ⟨w.heap.size, 2, none⟩ = some (.slice none 0 0) := by simp [hc2, go_sem]
    have x3 : w2.cell? ⟨w.heap.size, 3, none⟩ = some (.int .i64 0) := by simp [hc2, go_sem]
    have hB2 := (((Below.refl _ _).alloc (Nat.le_refl _) _).alloc (by simp) _).trans (hb2.mono (by simp; omega))
    go_wp2
    refine bodyPost_ret (v := newV false wd) (by simp [newV, results, Try.results48, go_sem, ↓cell_some, x0, x1, x2, x3]) rfl ⟨rfl, ?_⟩
    repeat (refine Below.setCell ?_ (by simp) _)
    exact hB2
  · rw [h] at hok
    go_enter Try.func48, Try.ntmps48
    go_wp2_with fail
    refine (hok _).mono ?_
    rintro e w2 ⟨rfl, hb2⟩
    obtain ⟨hc2, hf2⟩ := bcell hb2
    have hz2 := hb2.size
    simp only [World.size_alloc] at hz2
    have hl1 : w.heap.size < w2.heap.size := by omega
    have hl2 : w.heap.size + 1 < w2.heap.size := by omega
    have x0 : w2.cell? ⟨w.heap.size, 0, none⟩ = some (.int .i64 0) := by simp [hc2, go_sem]
    have x1 : w2.cell? ⟨w.heap.size, 1, none⟩ = some (.int .i64 0) := by simp [hc2, go_sem]
    have x2 : w2.cell? ⟨w.heap.size, 2, none⟩ = some (.slice none 0 0) := by simp [hc2, go_sem]
    have x3 : w2.cell? ⟨w.heap.size, 3, none⟩ = some (.int .i64 0) := by simp [hc2, go_sem]
    have hB2 := (((Below.refl _ _).alloc (Nat.le_refl _) _).alloc (by simp) _).trans (hb2.mono (by simp; omega))
    go_wp2
    refine bodyPost_ret (v := newV true wd) (by simp [newV, results, Try.results48, go_sem, ↓cell_some, x0, x1, x2, x3]) rfl ⟨rfl, ?_⟩
    repeat (refine Below.setCell ?_ (by simp) _)
    exact hB2
end Go.Proofs.Ytpnejmlbfadaaaa
