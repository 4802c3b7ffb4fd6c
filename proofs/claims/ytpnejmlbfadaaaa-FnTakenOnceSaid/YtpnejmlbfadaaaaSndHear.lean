/- Contracts: a sender hears a notice, in the program and in the reference. No condition. -/
import Derived.Test.YtpnejmlbfadaaaaSndOk
import Derived.Test.YtpnejmlbfadaaaaSndCopy
namespace Go.Proofs.Ytpnejmlbfadaaaa
open Go.RowKit

def hearK (ex : Int) (zs : List ESent) : Int := (ex - (zs.getD 0 default).f0 + 256) % 256
theorem hearK_bounds (ex : Int) (zs : List ESent) : 0 ≤ hearK ex zs ∧ hearK ex zs ≤ 255 := by unfold hearK; omega

theorem hearNotice_no (nx wd : Int) (A : Option Addr) (n c : Nat) (zs : List ESent) (dn ex : Int) (lk ag : Bool) (w : World) (hn : zs.length = n) (hm : n ≤ 1048576) (hT : ∀ z ∈ zs, Txt z.f1) (hnn : A = none → n = 0 ∧ c = 0) (hr : Rd w 2 A n (zs.flatMap cSent))
    (h : sndOk nx wd zs dn = false ∨ n = 0 ∨ inB ex 0 255 = false ∨ (n : Int) < hearK ex zs) :
    Calls Try.prog 34 #[.agg #[.int .i64 nx, .int .i64 wd, .slice A n c, .int .i64 dn], .agg #[.int .i64 ex, .bool lk, .bool ag]] w fun e w' => ∃ A' c', e = .returned (.agg #[.int .i64 nx, .int .i64 wd, .slice A' n c', .int .i64 dn]) ∧ w'.ownsRow w.heap.size 80 2 (.slice A' n c') n (zs.flatMap cSent) ∧ Below w.heap.size w w' := by
  have hok := fun W hr => senderOk_any nx wd A n c zs dn W hn (by omega) hT hr
  have hcl := fun W hr => cloneSender_any nx wd dn A n c zs W hn (by omega) hr
  cases hs : sndOk nx wd zs dn
  · rw [hs] at hok
    go_enter Try.func34, Try.ntmps34
    go_wp2_with fail
    refine (hcl _ (((hr.alloc _).alloc _).alloc _)).mono ?_
    rintro e w1 ⟨A1, c1, rfl, hown1, hb1⟩
    obtain ⟨hc1, hf1⟩ := bcell hb1
    have hz1 := hb1.size
    simp only [World.size_alloc] at hz1
    have hl1 : w.heap.size < w1.heap.size := by omega
    have hl2 : w.heap.size + 1 < w1.heap.size := by omega
    have hl3 : w.heap.size + 1 + 1 < w1.heap.size := by omega
    have x0 : w1.cell? ⟨w.heap.size, 0, none⟩ = some (.int .i64 nx) := by simp [hc1, go_sem]
    have x1 : w1.cell? ⟨w.heap.size, 1, none⟩ = some (.int .i64 wd) := by simp [hc1, go_sem]
    have x2 : w1.cell? ⟨w.heap.size, 2, none⟩ = some (.slice A n c) := by simp [hc1, go_sem]
    have x3 : w1.cell? ⟨w.heap.size, 3, none⟩ = some (.int .i64 dn) := by simp [hc1, go_sem]
    have v0 : w1.cell? ⟨w.heap.size + 1, 0, none⟩ = some (.int .i64 ex) := by simp [hc1, go_sem]
    have y0 : w1.cell? ⟨w.heap.size + 1 + 1, 0, none⟩ = some (.int .i64 0) := by simp [hc1, go_sem]
    have y1 : w1.cell? ⟨w.heap.size + 1 + 1, 1, none⟩ = some (.int .i64 0) := by simp [hc1, go_sem]
    have y2 : w1.cell? ⟨w.heap.size + 1 + 1, 2, none⟩ = some (.slice none 0 0) := by simp [hc1, go_sem]
    have y3 : w1.cell? ⟨w.heap.size + 1 + 1, 3, none⟩ = some (.int .i64 0) := by simp [hc1, go_sem]
    have f1 : ∀ o, w1.frozen? ⟨w.heap.size + 1 + 1, o, none⟩ = false := fun o => by simp [hf1, go_sem] <;> omega
    clear hc1 hf1
    go_wp2_with fail
    refine (hok _ ((((((hr.alloc _).alloc _).alloc _).below hb1).alloc _))).mono ?_
    rintro e w2 ⟨rfl, hb2⟩
    have hB := below_step hb1 (((Below.refl _ _).alloc (Nat.le_refl _) _).trans (hb2.mono (by simp)))
    have hz2 := hb2.size
    simp only [World.size_alloc] at hz2
    have hla : w.heap.size < w2.heap.size := by omega
    have hlb : w.heap.size + 1 < w2.heap.size := by omega
    have hl : w.heap.size + 1 + 1 < w2.heap.size := by omega
    have hlz : w1.heap.size < w2.heap.size := by omega
    obtain ⟨hc2, hf2⟩ := bcell hb2
    have z0 : w2.cell? ⟨w1.heap.size, 0, none⟩ = some (.int .i64 nx) := by simp [hc2, go_sem]
    have z1 : w2.cell? ⟨w1.heap.size, 1, none⟩ = some (.int .i64 wd) := by simp [hc2, go_sem]
    have z2 : w2.cell? ⟨w1.heap.size, 2, none⟩ = some (.slice A1 n c1) := by simp [hc2, go_sem]
    have z3 : w2.cell? ⟨w1.heap.size, 3, none⟩ = some (.int .i64 dn) := by simp [hc2, go_sem]
    have f2 : ∀ o, w2.frozen? ⟨w1.heap.size, o, none⟩ = false := fun o => by simp [hf2, go_sem] <;> omega
    clear hc2 hf2
    obtain ⟨hc2, hf2⟩ := bcell hB
    clear x0 x1 x2 x3 y0 y1 y2 y3 f1 v0
    have x0 : w2.cell? ⟨w.heap.size, 0, none⟩ = some (.int .i64 nx) := by simp [hc2, go_sem]
    have x1 : w2.cell? ⟨w.heap.size, 1, none⟩ = some (.int .i64 wd) := by simp [hc2, go_sem]
    have x2 : w2.cell? ⟨w.heap.size, 2, none⟩ = some (.slice A n c) := by simp [hc2, go_sem]
    have x3 : w2.cell? ⟨w.heap.size, 3, none⟩ = some (.int .i64 dn) := by simp [hc2, go_sem]
    have v0 : w2.cell? ⟨w.heap.size + 1, 0, none⟩ = some (.int .i64 ex) := by simp [hc2, go_sem]
    have y0 : w2.cell? ⟨w.heap.size + 1 + 1, 0, none⟩ = some (.int .i64 0) := by simp [hc2, go_sem]
    have y1 : w2.cell? ⟨w.heap.size + 1 + 1, 1, none⟩ = some (.int .i64 0) := by simp [hc2, go_sem]
    have y2 : w2.cell? ⟨w.heap.size + 1 + 1, 2, none⟩ = some (.slice none 0 0) := by simp [hc2, go_sem]
    have y3 : w2.cell? ⟨w.heap.size + 1 + 1, 3, none⟩ = some (.int .i64 0) := by simp [hc2, go_sem]
    have f1 : ∀ o, w2.frozen? ⟨w.heap.size + 1 + 1, o, none⟩ = false := fun o => by simp [hf2, go_sem] <;> omega
    clear hc2 hf2
    have hown2 := own_below (hown1.alloc _) hb2
    simp only [World.size_alloc] at hown2
    have hBW : Below w.heap.size w w2 := ((((Below.refl _ _).alloc (Nat.le_refl _) _).alloc (by simp) _).alloc (by simp; omega) _).trans (hB.mono (by simp; omega))
    go_wp2
    refine bodyPost_ret (v := .agg #[.int .i64 nx, .int .i64 wd, .slice A1 n c1, .int .i64 dn]) (by simp [results, Try.results34, go_sem, ↓cell_some, y0, y1, y2, y3]) rfl ⟨A1, c1, rfl, ?_, ?_⟩
    · refine own_base (base' := w.heap.size + 1 + 1 + 1) ?_ (by omega)
      repeat refine ownsRow_setCell_below ?_ (by simp <;> omega) _
      exact hown2
    · repeat refine Below.setCell ?_ (by simp <;> omega) _
      exact hBW
  · rw [hs] at hok
    by_cases h0 : (n : Int) = 0
    · skip
      go_enter Try.func34, Try.ntmps34
      go_wp2_with fail
      refine (hcl _ (((hr.alloc _).alloc _).alloc _)).mono ?_
      rintro e w1 ⟨A1, c1, rfl, hown1, hb1⟩
      obtain ⟨hc1, hf1⟩ := bcell hb1
      have hz1 := hb1.size
      simp only [World.size_alloc] at hz1
      have hl1 : w.heap.size < w1.heap.size := by omega
      have hl2 : w.heap.size + 1 < w1.heap.size := by omega
      have hl3 : w.heap.size + 1 + 1 < w1.heap.size := by omega
      have x0 : w1.cell? ⟨w.heap.size, 0, none⟩ = some (.int .i64 nx) := by simp [hc1, go_sem]
      have x1 : w1.cell? ⟨w.heap.size, 1, none⟩ = some (.int .i64 wd) := by simp [hc1, go_sem]
      have x2 : w1.cell? ⟨w.heap.size, 2, none⟩ = some (.slice A n c) := by simp [hc1, go_sem]
      have x3 : w1.cell? ⟨w.heap.size, 3, none⟩ = some (.int .i64 dn) := by simp [hc1, go_sem]
      have v0 : w1.cell? ⟨w.heap.size + 1, 0, none⟩ = some (.int .i64 ex) := by simp [hc1, go_sem]
      have y0 : w1.cell? ⟨w.heap.size + 1 + 1, 0, none⟩ = some (.int .i64 0) := by simp [hc1, go_sem]
      have y1 : w1.cell? ⟨w.heap.size + 1 + 1, 1, none⟩ = some (.int .i64 0) := by simp [hc1, go_sem]
      have y2 : w1.cell? ⟨w.heap.size + 1 + 1, 2, none⟩ = some (.slice none 0 0) := by simp [hc1, go_sem]
      have y3 : w1.cell? ⟨w.heap.size + 1 + 1, 3, none⟩ = some (.int .i64 0) := by simp [hc1, go_sem]
      have f1 : ∀ o, w1.frozen? ⟨w.heap.size + 1 + 1, o, none⟩ = false := fun o => by simp [hf1, go_sem] <;> omega
      clear hc1 hf1
      go_wp2_with fail
      refine (hok _ ((((((hr.alloc _).alloc _).alloc _).below hb1).alloc _))).mono ?_
      rintro e w2 ⟨rfl, hb2⟩
      have hB := below_step hb1 (((Below.refl _ _).alloc (Nat.le_refl _) _).trans (hb2.mono (by simp)))
      have hz2 := hb2.size
      simp only [World.size_alloc] at hz2
      have hla : w.heap.size < w2.heap.size := by omega
      have hlb : w.heap.size + 1 < w2.heap.size := by omega
      have hl : w.heap.size + 1 + 1 < w2.heap.size := by omega
      have hlz : w1.heap.size < w2.heap.size := by omega
      obtain ⟨hc2, hf2⟩ := bcell hb2
      have z0 : w2.cell? ⟨w1.heap.size, 0, none⟩ = some (.int .i64 nx) := by simp [hc2, go_sem]
      have z1 : w2.cell? ⟨w1.heap.size, 1, none⟩ = some (.int .i64 wd) := by simp [hc2, go_sem]
      have z2 : w2.cell? ⟨w1.heap.size, 2, none⟩ = some (.slice A1 n c1) := by simp [hc2, go_sem]
      have z3 : w2.cell? ⟨w1.heap.size, 3, none⟩ = some (.int .i64 dn) := by simp [hc2, go_sem]
      have f2 : ∀ o, w2.frozen? ⟨w1.heap.size, o, none⟩ = false := fun o => by simp [hf2, go_sem] <;> omega
      clear hc2 hf2
      obtain ⟨hc2, hf2⟩ := bcell hB
      clear x0 x1 x2 x3 y0 y1 y2 y3 f1 v0
      have x0 : w2.cell? ⟨w.heap.size, 0, none⟩ = some (.int .i64 nx) := by simp [hc2, go_sem]
      have x1 : w2.cell? ⟨w.heap.size, 1, none⟩ = some (.int .i64 wd) := by simp [hc2, go_sem]
      have x2 : w2.cell? ⟨w.heap.size, 2, none⟩ = some (.slice A n c) := by simp [hc2, go_sem]
      have x3 : w2.cell? ⟨w.heap.size, 3, none⟩ = some (.int .i64 dn) := by simp [hc2, go_sem]
      have v0 : w2.cell? ⟨w.heap.size + 1, 0, none⟩ = some (.int .i64 ex) := by simp [hc2, go_sem]
      have y0 : w2.cell? ⟨w.heap.size + 1 + 1, 0, none⟩ = some (.int .i64 0) := by simp [hc2, go_sem]
      have y1 : w2.cell? ⟨w.heap.size + 1 + 1, 1, none⟩ = some (.int .i64 0) := by simp [hc2, go_sem]
      have y2 : w2.cell? ⟨w.heap.size + 1 + 1, 2, none⟩ = some (.slice none 0 0) := by simp [hc2, go_sem]
      have y3 : w2.cell? ⟨w.heap.size + 1 + 1, 3, none⟩ = some (.int .i64 0) := by simp [hc2, go_sem]
      have f1 : ∀ o, w2.frozen? ⟨w.heap.size + 1 + 1, o, none⟩ = false := fun o => by simp [hf2, go_sem] <;> omega
      clear hc2 hf2
      have hown2 := own_below (hown1.alloc _) hb2
      simp only [World.size_alloc] at hown2
      have hBW : Below w.heap.size w w2 := ((((Below.refl _ _).alloc (Nat.le_refl _) _).alloc (by simp) _).alloc (by simp; omega) _).trans (hB.mono (by simp; omega))
      go_wp2
      refine bodyPost_ret (v := .agg #[.int .i64 nx, .int .i64 wd, .slice A1 n c1, .int .i64 dn]) (by simp [results, Try.results34, go_sem, ↓cell_some, y0, y1, y2, y3]) rfl ⟨A1, c1, rfl, ?_, ?_⟩
      · refine own_base (base' := w.heap.size + 1 + 1 + 1) ?_ (by omega)
        repeat refine ownsRow_setCell_below ?_ (by simp <;> omega) _
        exact hown2
      · repeat refine Below.setCell ?_ (by simp <;> omega) _
        exact hBW
    cases hx : inB ex 0 255
    · skip
      go_enter Try.func34, Try.ntmps34
      go_wp2_with fail
      refine (hcl _ (((hr.alloc _).alloc _).alloc _)).mono ?_
      rintro e w1 ⟨A1, c1, rfl, hown1, hb1⟩
      obtain ⟨hc1, hf1⟩ := bcell hb1
      have hz1 := hb1.size
      simp only [World.size_alloc] at hz1
      have hl1 : w.heap.size < w1.heap.size := by omega
      have hl2 : w.heap.size + 1 < w1.heap.size := by omega
      have hl3 : w.heap.size + 1 + 1 < w1.heap.size := by omega
      have x0 : w1.cell? ⟨w.heap.size, 0, none⟩ = some (.int .i64 nx) := by simp [hc1, go_sem]
      have x1 : w1.cell? ⟨w.heap.size, 1, none⟩ = some (.int .i64 wd) := by simp [hc1, go_sem]
      have x2 : w1.cell? ⟨w.heap.size, 2, none⟩ = some (.slice A n c) := by simp [hc1, go_sem]
      have x3 : w1.cell? ⟨w.heap.size, 3, none⟩ = some (.int .i64 dn) := by simp [hc1, go_sem]
      have v0 : w1.cell? ⟨w.heap.size + 1, 0, none⟩ = some (.int .i64 ex) := by simp [hc1, go_sem]
      have y0 : w1.cell? ⟨w.heap.size + 1 + 1, 0, none⟩ = some (.int .i64 0) := by simp [hc1, go_sem]
      have y1 : w1.cell? ⟨w.heap.size + 1 + 1, 1, none⟩ = some (.int .i64 0) := by simp [hc1, go_sem]
      have y2 : w1.cell? ⟨w.heap.size + 1 + 1, 2, none⟩ = some (.slice none 0 0) := by simp [hc1, go_sem]
      have y3 : w1.cell? ⟨w.heap.size + 1 + 1, 3, none⟩ = some (.int .i64 0) := by simp [hc1, go_sem]
      have f1 : ∀ o, w1.frozen? ⟨w.heap.size + 1 + 1, o, none⟩ = false := fun o => by simp [hf1, go_sem] <;> omega
      clear hc1 hf1
      go_wp2_with fail
      refine (hok _ ((((((hr.alloc _).alloc _).alloc _).below hb1).alloc _))).mono ?_
      rintro e w2 ⟨rfl, hb2⟩
      have hB := below_step hb1 (((Below.refl _ _).alloc (Nat.le_refl _) _).trans (hb2.mono (by simp)))
      have hz2 := hb2.size
      simp only [World.size_alloc] at hz2
      have hla : w.heap.size < w2.heap.size := by omega
      have hlb : w.heap.size + 1 < w2.heap.size := by omega
      have hl : w.heap.size + 1 + 1 < w2.heap.size := by omega
      have hlz : w1.heap.size < w2.heap.size := by omega
      obtain ⟨hc2, hf2⟩ := bcell hb2
      have z0 : w2.cell? ⟨w1.heap.size, 0, none⟩ = some (.int .i64 nx) := by simp [hc2, go_sem]
      have z1 : w2.cell? ⟨w1.heap.size, 1, none⟩ = some (.int .i64 wd) := by simp [hc2, go_sem]
      have z2 : w2.cell? ⟨w1.heap.size, 2, none⟩ = some (.slice A1 n c1) := by simp [hc2, go_sem]
      have z3 : w2.cell? ⟨w1.heap.size, 3, none⟩ = some (.int .i64 dn) := by simp [hc2, go_sem]
      have f2 : ∀ o, w2.frozen? ⟨w1.heap.size, o, none⟩ = false := fun o => by simp [hf2, go_sem] <;> omega
      clear hc2 hf2
      obtain ⟨hc2, hf2⟩ := bcell hB
      clear x0 x1 x2 x3 y0 y1 y2 y3 f1 v0
      have x0 : w2.cell? ⟨w.heap.size, 0, none⟩ = some (.int .i64 nx) := by simp [hc2, go_sem]
      have x1 : w2.cell? ⟨w.heap.size, 1, none⟩ = some (.int .i64 wd) := by simp [hc2, go_sem]
      have x2 : w2.cell? ⟨w.heap.size, 2, none⟩ = some (.slice A n c) := by simp [hc2, go_sem]
      have x3 : w2.cell? ⟨w.heap.size, 3, none⟩ = some (.int .i64 dn) := by simp [hc2, go_sem]
      have v0 : w2.cell? ⟨w.heap.size + 1, 0, none⟩ = some (.int .i64 ex) := by simp [hc2, go_sem]
      have y0 : w2.cell? ⟨w.heap.size + 1 + 1, 0, none⟩ = some (.int .i64 0) := by simp [hc2, go_sem]
      have y1 : w2.cell? ⟨w.heap.size + 1 + 1, 1, none⟩ = some (.int .i64 0) := by simp [hc2, go_sem]
      have y2 : w2.cell? ⟨w.heap.size + 1 + 1, 2, none⟩ = some (.slice none 0 0) := by simp [hc2, go_sem]
      have y3 : w2.cell? ⟨w.heap.size + 1 + 1, 3, none⟩ = some (.int .i64 0) := by simp [hc2, go_sem]
      have f1 : ∀ o, w2.frozen? ⟨w.heap.size + 1 + 1, o, none⟩ = false := fun o => by simp [hf2, go_sem] <;> omega
      clear hc2 hf2
      have hown2 := own_below (hown1.alloc _) hb2
      simp only [World.size_alloc] at hown2
      have hBW : Below w.heap.size w w2 := ((((Below.refl _ _).alloc (Nat.le_refl _) _).alloc (by simp) _).alloc (by simp; omega) _).trans (hB.mono (by simp; omega))
      go_wp2_with (first | (go_at_call 62; refine (between_any _ _ _ _).mono ?_; rintro e w' ⟨rfl, rfl⟩) | (fail))
      refine bodyPost_ret (v := .agg #[.int .i64 nx, .int .i64 wd, .slice A1 n c1, .int .i64 dn]) (by simp [results, Try.results34, go_sem, ↓cell_some, y0, y1, y2, y3]) rfl ⟨A1, c1, rfl, ?_, ?_⟩
      · refine own_base (base' := w.heap.size + 1 + 1 + 1) ?_ (by omega)
        repeat refine ownsRow_setCell_below ?_ (by simp <;> omega) _
        exact hown2
      · repeat refine Below.setCell ?_ (by simp <;> omega) _
        exact hBW
    have hk : (n : Int) < hearK ex zs := by
      rcases h with h | h | h | h
      · rw [hs] at h; cases h
      · omega
      · rw [hx] at h; cases h
      · exact h
    have hxb := inB_true hx
    have hpos : 0 < zs.length := by omega
    have hall := okTo_all (show okTo nx zs zs.length = true by unfold sndOk at hs; simp only [Bool.and_eq_true] at hs; exact hs.2) hpos
    obtain ⟨u0, hu⟩ : ∃ u : Int, zs[0].f0 = u := ⟨_, rfl⟩
    rw [hu] at hall
    have hall2 := hall.2
    have hf : (0 : Int) ≤ u0 ∧ u0 ≤ 255 := by omega
    have hK : hearK ex zs = (ex - u0 + 256) % 256 := by unfold hearK; simp [hpos, hu]
    have hE : (ex - u0 + 256) % 256 = (ex - u0) % 256 := by omega
    have hm1 : (ex - u0 + 256).tmod 256 = (ex - u0 + 256) % 256 := Int.tmod_eq_emod_of_nonneg (by omega)
    rw [hK, hE] at hk
    rw [hE] at hm1
    have hkb : (0 : Int) ≤ (ex - u0) % 256 ∧ (ex - u0) % 256 ≤ 255 := by omega
    clear hE hK hall h hall2
    go_enter Try.func34, Try.ntmps34
    go_wp2_with fail
    refine (hcl _ (((hr.alloc _).alloc _).alloc _)).mono ?_
    rintro e w1 ⟨A1, c1, rfl, hown1, hb1⟩
    obtain ⟨hc1, hf1⟩ := bcell hb1
    have hz1 := hb1.size
    simp only [World.size_alloc] at hz1
    have hl1 : w.heap.size < w1.heap.size := by omega
    have hl2 : w.heap.size + 1 < w1.heap.size := by omega
    have hl3 : w.heap.size + 1 + 1 < w1.heap.size := by omega
    have x0 : w1.cell? ⟨w.heap.size, 0, none⟩ = some (.int .i64 nx) := by simp [hc1, go_sem]
    have x1 : w1.cell? ⟨w.heap.size, 1, none⟩ = some (.int .i64 wd) := by simp [hc1, go_sem]
    have x2 : w1.cell? ⟨w.heap.size, 2, none⟩ = some (.slice A n c) := by simp [hc1, go_sem]
    have x3 : w1.cell? ⟨w.heap.size, 3, none⟩ = some (.int .i64 dn) := by simp [hc1, go_sem]
    have v0 : w1.cell? ⟨w.heap.size + 1, 0, none⟩ = some (.int .i64 ex) := by simp [hc1, go_sem]
    have y0 : w1.cell? ⟨w.heap.size + 1 + 1, 0, none⟩ = some (.int .i64 0) := by simp [hc1, go_sem]
    have y1 : w1.cell? ⟨w.heap.size + 1 + 1, 1, none⟩ = some (.int .i64 0) := by simp [hc1, go_sem]
    have y2 : w1.cell? ⟨w.heap.size + 1 + 1, 2, none⟩ = some (.slice none 0 0) := by simp [hc1, go_sem]
    have y3 : w1.cell? ⟨w.heap.size + 1 + 1, 3, none⟩ = some (.int .i64 0) := by simp [hc1, go_sem]
    have f1 : ∀ o, w1.frozen? ⟨w.heap.size + 1 + 1, o, none⟩ = false := fun o => by simp [hf1, go_sem] <;> omega
    clear hc1 hf1
    go_wp2_with fail
    refine (hok _ ((((((hr.alloc _).alloc _).alloc _).below hb1).alloc _))).mono ?_
    rintro e w2 ⟨rfl, hb2⟩
    have hB := below_step hb1 (((Below.refl _ _).alloc (Nat.le_refl _) _).trans (hb2.mono (by simp)))
    have hz2 := hb2.size
    simp only [World.size_alloc] at hz2
    have hla : w.heap.size < w2.heap.size := by omega
    have hlb : w.heap.size + 1 < w2.heap.size := by omega
    have hl : w.heap.size + 1 + 1 < w2.heap.size := by omega
    have hlz : w1.heap.size < w2.heap.size := by omega
    obtain ⟨hc2, hf2⟩ := bcell hb2
    have z0 : w2.cell? ⟨w1.heap.size, 0, none⟩ = some (.int .i64 nx) := by simp [hc2, go_sem]
    have z1 : w2.cell? ⟨w1.heap.size, 1, none⟩ = some (.int .i64 wd) := by simp [hc2, go_sem]
    have z2 : w2.cell? ⟨w1.heap.size, 2, none⟩ = some (.slice A1 n c1) := by simp [hc2, go_sem]
    have z3 : w2.cell? ⟨w1.heap.size, 3, none⟩ = some (.int .i64 dn) := by simp [hc2, go_sem]
    have f2 : ∀ o, w2.frozen? ⟨w1.heap.size, o, none⟩ = false := fun o => by simp [hf2, go_sem] <;> omega
    clear hc2 hf2
    obtain ⟨hc2, hf2⟩ := bcell hB
    clear x0 x1 x2 x3 y0 y1 y2 y3 f1 v0
    have x0 : w2.cell? ⟨w.heap.size, 0, none⟩ = some (.int .i64 nx) := by simp [hc2, go_sem]
    have x1 : w2.cell? ⟨w.heap.size, 1, none⟩ = some (.int .i64 wd) := by simp [hc2, go_sem]
    have x2 : w2.cell? ⟨w.heap.size, 2, none⟩ = some (.slice A n c) := by simp [hc2, go_sem]
    have x3 : w2.cell? ⟨w.heap.size, 3, none⟩ = some (.int .i64 dn) := by simp [hc2, go_sem]
    have v0 : w2.cell? ⟨w.heap.size + 1, 0, none⟩ = some (.int .i64 ex) := by simp [hc2, go_sem]
    have y0 : w2.cell? ⟨w.heap.size + 1 + 1, 0, none⟩ = some (.int .i64 0) := by simp [hc2, go_sem]
    have y1 : w2.cell? ⟨w.heap.size + 1 + 1, 1, none⟩ = some (.int .i64 0) := by simp [hc2, go_sem]
    have y2 : w2.cell? ⟨w.heap.size + 1 + 1, 2, none⟩ = some (.slice none 0 0) := by simp [hc2, go_sem]
    have y3 : w2.cell? ⟨w.heap.size + 1 + 1, 3, none⟩ = some (.int .i64 0) := by simp [hc2, go_sem]
    have f1 : ∀ o, w2.frozen? ⟨w.heap.size + 1 + 1, o, none⟩ = false := fun o => by simp [hf2, go_sem] <;> omega
    clear hc2 hf2
    have hown2 := own_below (hown1.alloc _) hb2
    simp only [World.size_alloc] at hown2
    have hBW : Below w.heap.size w w2 := ((((Below.refl _ _).alloc (Nat.le_refl _) _).alloc (by simp) _).alloc (by simp; omega) _).trans (hB.mono (by simp; omega))
    obtain ⟨b, o, rfl, hb0, hcz⟩ := Rd.get cSent_len ((hr.below hBW)) hn.symm hpos
    have e0 : w2.cell? ⟨b, o, none⟩ = some (.int .i64 u0) := by have := hcz 0 _ (by omega) rfl; rw [← hu]; simpa using this
    clear hcz hu
    have hi0 : (0 : Int) < n := by omega
    go_wp2_with (first | (go_at_call 62; refine (between_any _ _ _ _).mono ?_; rintro e w' ⟨rfl, rfl⟩) | (fail))
    go_quiet (fail)
    go_wp2
    refine bodyPost_ret (v := .agg #[.int .i64 nx, .int .i64 wd, .slice A1 n c1, .int .i64 dn]) (by simp [results, Try.results34, go_sem, ↓cell_some, y0, y1, y2, y3]) rfl ⟨A1, c1, rfl, ?_, ?_⟩
    · refine own_base (base' := w.heap.size + 1 + 1 + 1) ?_ (by omega)
      repeat refine ownsRow_setCell_below ?_ (by simp <;> omega) _
      exact hown2
    · repeat refine Below.setCell ?_ (by simp <;> omega) _
      exact below_drewN hBW _
set_option maxHeartbeats 800000 in
theorem hearNotice_yes (nx wd : Int) (A : Option Addr) (n c : Nat) (zs : List ESent) (dn ex : Int) (lk ag : Bool) (w : World) (hn : zs.length = n) (hm : n ≤ 1048576) (hnc : n ≤ c) (hT : ∀ z ∈ zs, Txt z.f1) (hnn : A = none → n = 0 ∧ c = 0) (hr : Rd w 2 A n (zs.flatMap cSent))
    (hs : sndOk nx wd zs dn = true) (h0 : 0 < n) (hx : inB ex 0 255 = true) (k : Nat) (hk : hearK ex zs = k) (hkn : k ≤ n) :
    Calls Try.prog 34 #[.agg #[.int .i64 nx, .int .i64 wd, .slice A n c, .int .i64 dn], .agg #[.int .i64 ex, .bool lk, .bool ag]] w fun e w' => ∃ A' c', e = .returned (.agg #[.int .i64 nx, .int .i64 wd, .slice A' (n - k) c', .int .i64 (min (dn + k) 1000000)]) ∧ w'.ownsRow w.heap.size 80 2 (.slice A' (n - k) c') (n - k) ((zs.drop k).flatMap cSent) ∧ Below w.heap.size w w' := by
  have hok := fun W hr => senderOk_any nx wd A n c zs dn W hn (by omega) hT hr
  have hcl := fun W hr => cloneSender_any nx wd dn A n c zs W hn (by omega) hr
  rw [hs] at hok
  have hxb := inB_true hx
  have hpos : 0 < zs.length := by omega
  have hs2 := hs
  unfold sndOk at hs2
  simp only [Bool.and_eq_true] at hs2
  obtain ⟨p1, p2, p3, p4⟩ := sndPre_parts hs2.1
  have hall := okTo_all hs2.2 hpos
  obtain ⟨u0, hu⟩ : ∃ u : Int, zs[0].f0 = u := ⟨_, rfl⟩
  rw [hu] at hall
  have hall2 := hall.2
  have hf : (0 : Int) ≤ u0 ∧ u0 ≤ 255 := by omega
  have hK : hearK ex zs = (ex - u0 + 256) % 256 := by unfold hearK; simp [hpos, hu]
  have hE : (ex - u0 + 256) % 256 = (ex - u0) % 256 := by omega
  have hm1 : (ex - u0 + 256).tmod 256 = (ex - u0 + 256) % 256 := Int.tmod_eq_emod_of_nonneg (by omega)
  rw [hK, hE] at hk
  rw [hE] at hm1
  have hk0 : (0 : Int) ≤ k := by omega
  have hk1 : (k : Int) ≤ n := by omega
  have hk2 : (n : Int) ≤ c := by omega
  clear hE hK hall hall2 hs2
  go_enter Try.func34, Try.ntmps34
  go_wp2_with fail
  refine (hcl _ (((hr.alloc _).alloc _).alloc _)).mono ?_
  rintro e w1 ⟨A1, c1, rfl, hown1, hb1⟩
  obtain ⟨hc1, hf1⟩ := bcell hb1
  have hz1 := hb1.size
  simp only [World.size_alloc] at hz1
  have hl1 : w.heap.size < w1.heap.size := by omega
  have hl2 : w.heap.size + 1 < w1.heap.size := by omega
  have hl3 : w.heap.size + 1 + 1 < w1.heap.size := by omega
  have x0 : w1.cell? ⟨w.heap.size, 0, none⟩ = some (.int .i64 nx) := by simp [hc1, go_sem]
  have x1 : w1.cell? ⟨w.heap.size, 1, none⟩ = some (.int .i64 wd) := by simp [hc1, go_sem]
  have x2 : w1.cell? ⟨w.heap.size, 2, none⟩ = some (.slice A n c) := by simp [hc1, go_sem]
  have x3 : w1.cell? ⟨w.heap.size, 3, none⟩ = some (.int .i64 dn) := by simp [hc1, go_sem]
  have v0 : w1.cell? ⟨w.heap.size + 1, 0, none⟩ = some (.int .i64 ex) := by simp [hc1, go_sem]
  have y0 : w1.cell? ⟨w.heap.size + 1 + 1, 0, none⟩ = some (.int .i64 0) := by simp [hc1, go_sem]
  have y1 : w1.cell? ⟨w.heap.size + 1 + 1, 1, none⟩ = some (.int .i64 0) := by simp [hc1, go_sem]
  have y2 : w1.cell? ⟨w.heap.size + 1 + 1, 2, none⟩ = some (.slice none 0 0) := by simp [hc1, go_sem]
  have y3 : w1.cell? ⟨w.heap.size + 1 + 1, 3, none⟩ = some (.int .i64 0) := by simp [hc1, go_sem]
  have f1 : ∀ o, w1.frozen? ⟨w.heap.size + 1 + 1, o, none⟩ = false := fun o => by simp [hf1, go_sem] <;> omega
  clear hc1 hf1
  go_wp2_with fail
  refine (hok _ ((((((hr.alloc _).alloc _).alloc _).below hb1).alloc _))).mono ?_
  rintro e w2 ⟨rfl, hb2⟩
  have hB := below_step hb1 (((Below.refl _ _).alloc (Nat.le_refl _) _).trans (hb2.mono (by simp)))
  have hz2 := hb2.size
  simp only [World.size_alloc] at hz2
  have hla : w.heap.size < w2.heap.size := by omega
  have hlb : w.heap.size + 1 < w2.heap.size := by omega
  have hl : w.heap.size + 1 + 1 < w2.heap.size := by omega
  have hlz : w1.heap.size < w2.heap.size := by omega
  obtain ⟨hc2, hf2⟩ := bcell hb2
  have z0 : w2.cell? ⟨w1.heap.size, 0, none⟩ = some (.int .i64 nx) := by simp [hc2, go_sem]
  have z1 : w2.cell? ⟨w1.heap.size, 1, none⟩ = some (.int .i64 wd) := by simp [hc2, go_sem]
  have z2 : w2.cell? ⟨w1.heap.size, 2, none⟩ = some (.slice A1 n c1) := by simp [hc2, go_sem]
  have z3 : w2.cell? ⟨w1.heap.size, 3, none⟩ = some (.int .i64 dn) := by simp [hc2, go_sem]
  have f2 : ∀ o, w2.frozen? ⟨w1.heap.size, o, none⟩ = false := fun o => by simp [hf2, go_sem] <;> omega
  clear hc2 hf2
  obtain ⟨hc2, hf2⟩ := bcell hB
  clear x0 x1 x2 x3 y0 y1 y2 y3 f1 v0
  have x0 : w2.cell? ⟨w.heap.size, 0, none⟩ = some (.int .i64 nx) := by simp [hc2, go_sem]
  have x1 : w2.cell? ⟨w.heap.size, 1, none⟩ = some (.int .i64 wd) := by simp [hc2, go_sem]
  have x2 : w2.cell? ⟨w.heap.size, 2, none⟩ = some (.slice A n c) := by simp [hc2, go_sem]
  have x3 : w2.cell? ⟨w.heap.size, 3, none⟩ = some (.int .i64 dn) := by simp [hc2, go_sem]
  have v0 : w2.cell? ⟨w.heap.size + 1, 0, none⟩ = some (.int .i64 ex) := by simp [hc2, go_sem]
  have y0 : w2.cell? ⟨w.heap.size + 1 + 1, 0, none⟩ = some (.int .i64 0) := by simp [hc2, go_sem]
  have y1 : w2.cell? ⟨w.heap.size + 1 + 1, 1, none⟩ = some (.int .i64 0) := by simp [hc2, go_sem]
  have y2 : w2.cell? ⟨w.heap.size + 1 + 1, 2, none⟩ = some (.slice none 0 0) := by simp [hc2, go_sem]
  have y3 : w2.cell? ⟨w.heap.size + 1 + 1, 3, none⟩ = some (.int .i64 0) := by simp [hc2, go_sem]
  have f1 : ∀ o, w2.frozen? ⟨w.heap.size + 1 + 1, o, none⟩ = false := fun o => by simp [hf2, go_sem] <;> omega
  clear hc2 hf2
  have hown2 := own_below (hown1.alloc _) hb2
  simp only [World.size_alloc] at hown2
  have hBW : Below w.heap.size w w2 := ((((Below.refl _ _).alloc (Nat.le_refl _) _).alloc (by simp) _).alloc (by simp; omega) _).trans (hB.mono (by simp; omega))
  have hrw2 := hr.below hBW
  obtain ⟨b, o, rfl, hb0, hcz⟩ := Rd.get cSent_len hrw2 hn.symm hpos
  have e0 : w2.cell? ⟨b, o, none⟩ = some (.int .i64 u0) := by have := hcz 0 _ (by omega) rfl; rw [← hu]; simpa using this
  have hdrop := Rd.tail cSent_len hrw2 hn hkn
  clear hcz hu
  have hi0 : (0 : Int) < n := by omega
  go_wp2_with (first | (go_at_call 62; refine (between_any _ _ _ _).mono ?_; rintro e w' ⟨rfl, rfl⟩) | (fail))
  go_quiet (fail)
  have hdropN : n = k → ∀ A', Rd w2 2 A' (n - k) ((zs.drop k).flatMap cSent) := by
    intro e A'
    rw [List.drop_of_length_le (by omega), show n - k = 0 from by omega]
    exact Rd.nil_
  have hdl : (zs.drop k).length = n - k := by rw [List.length_drop, hn]
  have hw : IntKind.i64.wrap (dn + k) = dn + k := IntWalk.i64_in _ (by omega)
  have hmn2 : (dn + k ≤ 1000000 ∧ min (dn + (k : Int)) 1000000 = dn + k) ∨ (1000000 < dn + k ∧ min (dn + (k : Int)) 1000000 = 1000000) := by omega
  rcases hmn2 with ⟨hmin, hmn0⟩ | ⟨hmin, hmn0⟩
  all_goals
    have hmn := Lib.hid hmn0
    clear hmn0
    go_wp2_with fail
    all_goals
      refine (cloneSent_any _ _ _ (zs.drop k) _ hdl (by omega) (by first | exact hdrop | exact hdropN (by omega) _)).mono ?_
      rintro e w3 ⟨A3, c3, rfl, hown3, hb3⟩
      have hz3 := hb3.size
      have hs3 : w2.heap.size ≤ w3.heap.size := hz3
      obtain ⟨hc3, hf3⟩ := bcell hb3
      have na : w.heap.size < w3.heap.size := by omega
      have nb : w.heap.size + 1 + 1 < w3.heap.size := by omega
      have nz : w1.heap.size < w3.heap.size := by omega
      have X3 : w3.cell? ⟨w.heap.size, 3, none⟩ = some (.int .i64 dn) := (hc3 _ _ hla).trans x3
      have Y0 : w3.cell? ⟨w.heap.size + 1 + 1, 0, none⟩ = some (.int .i64 0) := (hc3 _ _ hl).trans y0
      have Y1 : w3.cell? ⟨w.heap.size + 1 + 1, 1, none⟩ = some (.int .i64 0) := (hc3 _ _ hl).trans y1
      have Y2 : w3.cell? ⟨w.heap.size + 1 + 1, 2, none⟩ = some (.slice none 0 0) := (hc3 _ _ hl).trans y2
      have Y3 : w3.cell? ⟨w.heap.size + 1 + 1, 3, none⟩ = some (.int .i64 0) := (hc3 _ _ hl).trans y3
      have Z0 : w3.cell? ⟨w1.heap.size, 0, none⟩ = some (.int .i64 nx) := (hc3 _ _ hlz).trans z0
      have Z1 : w3.cell? ⟨w1.heap.size, 1, none⟩ = some (.int .i64 wd) := (hc3 _ _ hlz).trans z1
      have Z2 : w3.cell? ⟨w1.heap.size, 2, none⟩ = some (.slice A1 n c1) := (hc3 _ _ hlz).trans z2
      have Z3 : w3.cell? ⟨w1.heap.size, 3, none⟩ = some (.int .i64 dn) := (hc3 _ _ hlz).trans z3
      have F1 : ∀ o, w3.frozen? ⟨w.heap.size + 1 + 1, o, none⟩ = false := fun o => (hf3 _ _ hl).trans (f1 o)
      have F2 : ∀ o, w3.frozen? ⟨w1.heap.size, o, none⟩ = false := fun o => (hf3 _ _ hlz).trans (f2 o)
      have hBW3 : Below w.heap.size w w3 := below_step (below_drewN hBW _) hb3
      clear hc3 hf3 x0 x1 x3 v0 y0 y1 y2 y3 z0 z1 z2 z3 f1 f2 hb3 hb2 hown2 hrw2 hr hdrop hdropN hok hcl e0
      go_wp2
      refine bodyPost_ret (v := .agg #[.int .i64 nx, .int .i64 wd, .slice A3 (n - k) c3, .int .i64 (min (dn + k) 1000000)]) (by simp [results, Try.results34, go_sem, ↓cell_some, Y0, Y1, Y2, Y3, hmn.out]) rfl ⟨A3, c3, rfl, ?_, ?_⟩
      · refine own_base (base' := w2.heap.size) ?_ (by omega)
        repeat refine ownsRow_setCell_below ?_ (by simp <;> omega) _
        exact hown3
      · repeat refine Below.setCell ?_ (by simp <;> omega) _
        exact hBW3
end Go.Proofs.Ytpnejmlbfadaaaa
