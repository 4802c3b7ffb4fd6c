/- Contracts: copies of a sender of commands, in the program and in the reference. No condition. -/
import Derived.Test.YtpnejmlbfadaaaaSentRow
namespace Go.Proofs.Ytpnejmlbfadaaaa
open Go.RowKit

theorem cloneSender_any (a b d : Int) (A : Option Addr) (n c : Nat) (zs : List ESent) (w : World) (hn : zs.length = n) (hm : n ≤ 1048577) (hr : Rd w 2 A n (zs.flatMap cSent)) :
    Calls Try.prog 63 #[.agg #[.int .i64 a, .int .i64 b, .slice A n c, .int .i64 d]] w fun e w' => ∃ A' c', e = .returned (.agg #[.int .i64 a, .int .i64 b, .slice A' n c', .int .i64 d]) ∧ w'.ownsRow w.heap.size 80 2 (.slice A' n c') n (zs.flatMap cSent) ∧ Below w.heap.size w w' := by
  go_enter Try.func63, Try.ntmps63
  go_wp2_with fail
  refine (cloneSent_any _ _ _ zs _ hn hm ((hr.alloc _).alloc _)).mono ?_
  rintro e w1 ⟨A1, c1, rfl, hown1, hb1⟩
  obtain ⟨hc, hf⟩ := bcell hb1
  have hz := hb1.size
  simp only [World.size_alloc] at hz hown1
  have x0 : w1.cell? ⟨w.heap.size, 0, none⟩ = some (.int .i64 a) := by simp [hc, go_sem]
  have x1 : w1.cell? ⟨w.heap.size, 1, none⟩ = some (.int .i64 b) := by simp [hc, go_sem]
  have x2 : w1.cell? ⟨w.heap.size, 2, none⟩ = some (.slice A n c) := by simp [hc, go_sem]
  have x3 : w1.cell? ⟨w.heap.size, 3, none⟩ = some (.int .i64 d) := by simp [hc, go_sem]
  have y0 : w1.cell? ⟨w.heap.size + 1, 0, none⟩ = some (.int .i64 0) := by simp [hc, go_sem]
  have y1 : w1.cell? ⟨w.heap.size + 1, 1, none⟩ = some (.int .i64 0) := by simp [hc, go_sem]
  have y2 : w1.cell? ⟨w.heap.size + 1, 2, none⟩ = some (.slice none 0 0) := by simp [hc, go_sem]
  have y3 : w1.cell? ⟨w.heap.size + 1, 3, none⟩ = some (.int .i64 0) := by simp [hc, go_sem]
  have f0 : ∀ o, w1.frozen? ⟨w.heap.size, o, none⟩ = false := fun o => by simp [hf, go_sem] <;> omega
  have f1 : ∀ o, w1.frozen? ⟨w.heap.size + 1, o, none⟩ = false := fun o => by simp [hf, go_sem] <;> omega
  have hB2 := (((Below.refl _ _).alloc (Nat.le_refl _) _).alloc (by simp) _).trans (hb1.mono (by simp; omega))
  have hl : w.heap.size + 1 < w1.heap.size := by omega
  clear hc hf
  go_wp2
  refine bodyPost_ret (v := .agg #[.int .i64 a, .int .i64 b, .slice A1 n c1, .int .i64 d]) (by simp [results, Try.results63, go_sem, ↓cell_some, y0, y1, y2, y3]) rfl ⟨A1, c1, rfl, ?_, ?_⟩
  · refine own_base (base' := w.heap.size + 1 + 1) ?_ (by omega)
    repeat refine ownsRow_setCell_below ?_ (by simp <;> omega) _
    exact hown1
  · repeat refine Below.setCell ?_ (by simp) _
    exact hB2
theorem l04Copy_any (a b d : Int) (A : Option Addr) (n c : Nat) (zs : List ESent) (w : World) (hn : zs.length = n) (hm : n ≤ 1048577) (hnn : A = none → n = 0 ∧ c = 0) (hr : Rd w 2 A n (zs.flatMap cSent)) :
    Calls Try.prog 81 #[.agg #[.int .i64 a, .int .i64 b, .slice A n c, .int .i64 d]] w fun e w' => ∃ A' c', e = .returned (.agg #[.int .i64 a, .int .i64 b, .slice A' n c', .int .i64 d]) ∧ w'.ownsRow w.heap.size 80 2 (.slice A' n c') n (zs.flatMap cSent) ∧ Below w.heap.size w w' := by
  go_enter Try.func81, Try.ntmps81
  go_wp2_with (at_builtin; refine wpList_copy _ rfl (.tmp 3) (.tmp 5) 37 rfl 80 (.agg #[.int .i64 0, .string ⟨#[]⟩]) 2 24 Try.underlying37 infoSent rfl (by decide) (w.heap.size + 1 + 1) _ 0 0 [] rfl (own_fresh _ _ _ _ _ (by simp) (by simp)) A n c (zs.flatMap cSent) rfl hnn (((hr.alloc _).alloc _).alloc _) (flatSent_one zs) (by omega) (by simp) ?_; intro A1 c1 w1 hown1 _ hb1; have hz := hb1.size; obtain ⟨hc, hf⟩ := pcell hb1; simp only [World.size_alloc] at hz; have x0 : w1.cell? ⟨w.heap.size, 0, none⟩ = some (.int .i64 a) := (by simp [hc, go_sem]); have x1 : w1.cell? ⟨w.heap.size, 1, none⟩ = some (.int .i64 b) := (by simp [hc, go_sem]); have x2 : w1.cell? ⟨w.heap.size, 2, none⟩ = some (.slice A n c) := (by simp [hc, go_sem]); have x3 : w1.cell? ⟨w.heap.size, 3, none⟩ = some (.int .i64 d) := (by simp [hc, go_sem]); have y0 : w1.cell? ⟨w.heap.size + 1, 0, none⟩ = some (.int .i64 0) := (by simp [hc, go_sem]); have y1 : w1.cell? ⟨w.heap.size + 1, 1, none⟩ = some (.int .i64 0) := (by simp [hc, go_sem]); have y2 : w1.cell? ⟨w.heap.size + 1, 2, none⟩ = some (.slice none 0 0) := (by simp [hc, go_sem]); have y3 : w1.cell? ⟨w.heap.size + 1, 3, none⟩ = some (.int .i64 0) := (by simp [hc, go_sem]); have f0 : ∀ o, w1.frozen? ⟨w.heap.size, o, none⟩ = false := (fun o => by simp [hf, go_sem] <;> omega); have f1 : ∀ o, w1.frozen? ⟨w.heap.size + 1, o, none⟩ = false := (fun o => by simp [hf, go_sem] <;> omega); have hl : w.heap.size + 1 < w1.heap.size := (by omega); clear hc hf)
  have hB2 := ((((Below.refl _ _).alloc (Nat.le_refl _) _).alloc (by simp) _).alloc (by simp; omega) _).trans (hb1.mono (by omega))
  simp only [Nat.zero_add, List.nil_append] at hown1
  refine bodyPost_ret (v := .agg #[.int .i64 a, .int .i64 b, .slice A1 n c1, .int .i64 d]) (by simp [results, Try.results81, go_sem, ↓cell_some, y0, y1, y2, y3]) rfl ⟨A1, c1, rfl, ?_, ?_⟩
  · refine own_base (base' := w.heap.size + 1 + 1) ?_ (by omega)
    repeat refine ownsRow_setCell_below ?_ (by simp <;> omega) _
    exact hown1
  · repeat refine Below.setCell ?_ (by simp) _
    exact hB2
end Go.Proofs.Ytpnejmlbfadaaaa
