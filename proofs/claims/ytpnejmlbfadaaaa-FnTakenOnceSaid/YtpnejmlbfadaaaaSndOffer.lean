/- Contracts: a command is offered to a sender, in the program and in the reference. No condition. -/
import Derived.Test.YtpnejmlbfadaaaaSndOk
import Derived.Test.YtpnejmlbfadaaaaSndCopy
namespace Go.Proofs.Ytpnejmlbfadaaaa
open Go.RowKit

def offZ (nx : Int) (zs : List ESent) (d : List UInt8) : List ESent := zs ++ [⟨nx, d⟩]
theorem offZ_len (nx : Int) (zs : List ESent) (d : List UInt8) : (offZ nx zs d).length = zs.length + 1 := by simp [offZ]
theorem offZ_flat (nx : Int) (zs : List ESent) (d : List UInt8) : (offZ nx zs d).flatMap cSent = zs.flatMap cSent ++ [.int .i64 nx, .string ⟨d.toArray⟩] := by simp [offZ, cSent]

theorem offerCommand_no (nx wd : Int) (A : Option Addr) (n c : Nat) (zs : List ESent) (dn : Int) (d : List UInt8) (w : World) (hn : zs.length = n) (hm : n ≤ 1048576) (hT : ∀ z ∈ zs, Txt z.f1) (hr : Rd w 2 A n (zs.flatMap cSent)) (h : sndOk nx wd zs dn = false) :
    Calls Try.prog 29 #[.agg #[.int .i64 nx, .int .i64 wd, .slice A n c, .int .i64 dn], .string ⟨d.toArray⟩] w fun e w' => ∃ A' c', e = .returned (.tuple #[.agg #[.int .i64 nx, .int .i64 wd, .slice A' n c', .int .i64 dn], .bool false]) ∧ w'.ownsRow w.heap.size 80 2 (.slice A' n c') n (zs.flatMap cSent) ∧ Below w.heap.size w w' := by
  have hok := fun W hr => senderOk_any nx wd A n c zs dn W hn (by omega) hT hr
  rw [h] at hok
  go_enter Try.func29, Try.ntmps29
  go_wp2_with fail
  refine (hok _ ((hr.alloc _).alloc _)).mono ?_
  rintro e w1 ⟨rfl, hb1⟩
  obtain ⟨hc1, hf1⟩ := bcell hb1
  have hz1 := hb1.size
  simp only [World.size_alloc] at hz1
  have x0 : w1.cell? ⟨w.heap.size, 0, none⟩ = some (.int .i64 nx) := by simp [hc1, go_sem]
  have x1 : w1.cell? ⟨w.heap.size, 1, none⟩ = some (.int .i64 wd) := by simp [hc1, go_sem]
  have x2 : w1.cell? ⟨w.heap.size, 2, none⟩ = some (.slice A n c) := by simp [hc1, go_sem]
  have x3 : w1.cell? ⟨w.heap.size, 3, none⟩ = some (.int .i64 dn) := by simp [hc1, go_sem]
  have y0 : w1.cell? ⟨w.heap.size + 1, 0, none⟩ = some (.int .i64 0) := by simp [hc1, go_sem]
  have y1 : w1.cell? ⟨w.heap.size + 1, 1, none⟩ = some (.int .i64 0) := by simp [hc1, go_sem]
  have y2 : w1.cell? ⟨w.heap.size + 1, 2, none⟩ = some (.slice none 0 0) := by simp [hc1, go_sem]
  have y3 : w1.cell? ⟨w.heap.size + 1, 3, none⟩ = some (.int .i64 0) := by simp [hc1, go_sem]
  have f0 : ∀ o, w1.frozen? ⟨w.heap.size, o, none⟩ = false := fun o => by simp [hf1, go_sem] <;> omega
  have f1 : ∀ o, w1.frozen? ⟨w.heap.size + 1, o, none⟩ = false := fun o => by simp [hf1, go_sem] <;> omega
  clear hc1 hf1
  go_wp2_with fail
  refine (cloneSender_any _ _ _ _ _ _ zs _ hn (by omega) (((hr.alloc _).alloc _).below hb1)).mono ?_
  rintro e w2 ⟨A2, c2, rfl, hown2, hb2⟩
  have hB := below_step hb1 hb2
  have hz2 := hb2.size
  obtain ⟨hc2, hf2⟩ := bcell hB
  clear x0 x1 x2 x3 y0 y1 y2 y3 f0 f1
  have x0 : w2.cell? ⟨w.heap.size, 0, none⟩ = some (.int .i64 nx) := by simp [hc2, go_sem]
  have x1 : w2.cell? ⟨w.heap.size, 1, none⟩ = some (.int .i64 wd) := by simp [hc2, go_sem]
  have x2 : w2.cell? ⟨w.heap.size, 2, none⟩ = some (.slice A n c) := by simp [hc2, go_sem]
  have x3 : w2.cell? ⟨w.heap.size, 3, none⟩ = some (.int .i64 dn) := by simp [hc2, go_sem]
  have y0 : w2.cell? ⟨w.heap.size + 1, 0, none⟩ = some (.int .i64 0) := by simp [hc2, go_sem]
  have y1 : w2.cell? ⟨w.heap.size + 1, 1, none⟩ = some (.int .i64 0) := by simp [hc2, go_sem]
  have y2 : w2.cell? ⟨w.heap.size + 1, 2, none⟩ = some (.slice none 0 0) := by simp [hc2, go_sem]
  have y3 : w2.cell? ⟨w.heap.size + 1, 3, none⟩ = some (.int .i64 0) := by simp [hc2, go_sem]
  have f0 : ∀ o, w2.frozen? ⟨w.heap.size, o, none⟩ = false := fun o => by simp [hf2, go_sem] <;> omega
  have f1 : ∀ o, w2.frozen? ⟨w.heap.size + 1, o, none⟩ = false := fun o => by simp [hf2, go_sem] <;> omega
  clear hc2 hf2
  have hl : w.heap.size + 1 < w2.heap.size := by omega
  go_wp2
  refine bodyPost_ret (v := .tuple #[.agg #[.int .i64 nx, .int .i64 wd, .slice A2 n c2, .int .i64 dn], .bool false]) (by simp [results, Try.results29, go_sem, ↓cell_some, y0, y1, y2, y3]) rfl ⟨A2, c2, rfl, ?_, ?_⟩
  · refine own_base (base' := w1.heap.size) ?_ (by omega)
    repeat refine ownsRow_setCell_below ?_ (by simp <;> omega) _
    exact hown2
  · repeat refine Below.setCell ?_ (by simp) _
    exact (((Below.refl _ _).alloc (Nat.le_refl _) _).alloc (by simp) _).trans (hB.mono (by simp; omega))

/-- The walk up to the second test: the box of the new sender, its row, the cells of all boxes. -/
theorem offerCommand_yes (nx wd : Int) (A : Option Addr) (n c : Nat) (zs : List ESent) (dn : Int) (d : List UInt8) (b2 : Bool) (w : World) (hn : zs.length = n) (hm : n ≤ 1048576) (hT : ∀ z ∈ zs, Txt z.f1) (hd : Txt d) (hr : Rd w 2 A n (zs.flatMap cSent)) (hx : 0 ≤ nx ∧ nx ≤ 255) (h : sndOk nx wd zs dn = true) (h2 : sndOk ((nx + 1) % 256) wd (offZ nx zs d) dn = b2) :
    Calls Try.prog 29 #[.agg #[.int .i64 nx, .int .i64 wd, .slice A n c, .int .i64 dn], .string ⟨d.toArray⟩] w fun e w' => ∃ A' c', e = .returned (.tuple #[.agg #[.int .i64 (if b2 then (nx + 1) % 256 else nx), .int .i64 wd, .slice A' (if b2 then n + 1 else n) c', .int .i64 dn], .bool b2]) ∧ w'.ownsRow w.heap.size 80 2 (.slice A' (if b2 then n + 1 else n) c') (if b2 then n + 1 else n) ((if b2 then offZ nx zs d else zs).flatMap cSent) ∧ Below w.heap.size w w' := by
  have hok := fun W hr => senderOk_any nx wd A n c zs dn W hn (by omega) hT hr
  have hok2 := fun W A' c' hr => senderOk_any ((nx + 1) % 256) wd A' (n + 1) c' (offZ nx zs d) dn W (by rw [offZ_len, hn]) (by omega) (by
    intro z hz
    unfold offZ at hz
    rcases List.mem_append.1 hz with hz | hz
    · exact hT z hz
    · simp only [List.mem_singleton] at hz; subst hz; exact hd) hr
  rw [h] at hok
  rw [h2] at hok2
  have hm2 : (nx + 1).tmod 256 = (nx + 1) % 256 := Int.tmod_eq_emod_of_nonneg (by omega)
  have hm3 : 0 ≤ (nx + 1) % 256 ∧ (nx + 1) % 256 ≤ 255 := by omega
  go_enter Try.func29, Try.ntmps29
  go_wp2_with fail
  refine (hok _ ((hr.alloc _).alloc _)).mono ?_
  rintro e w1 ⟨rfl, hb1⟩
  obtain ⟨hc1, hf1⟩ := bcell hb1
  have hz1 := hb1.size
  simp only [World.size_alloc] at hz1
  have x0 : w1.cell? ⟨w.heap.size, 0, none⟩ = some (.int .i64 nx) := by simp [hc1, go_sem]
  have x1 : w1.cell? ⟨w.heap.size, 1, none⟩ = some (.int .i64 wd) := by simp [hc1, go_sem]
  have x2 : w1.cell? ⟨w.heap.size, 2, none⟩ = some (.slice A n c) := by simp [hc1, go_sem]
  have x3 : w1.cell? ⟨w.heap.size, 3, none⟩ = some (.int .i64 dn) := by simp [hc1, go_sem]
  have y0 : w1.cell? ⟨w.heap.size + 1, 0, none⟩ = some (.int .i64 0) := by simp [hc1, go_sem]
  have y1 : w1.cell? ⟨w.heap.size + 1, 1, none⟩ = some (.int .i64 0) := by simp [hc1, go_sem]
  have y2 : w1.cell? ⟨w.heap.size + 1, 2, none⟩ = some (.slice none 0 0) := by simp [hc1, go_sem]
  have y3 : w1.cell? ⟨w.heap.size + 1, 3, none⟩ = some (.int .i64 0) := by simp [hc1, go_sem]
  have f0 : ∀ o, w1.frozen? ⟨w.heap.size, o, none⟩ = false := fun o => by simp [hf1, go_sem] <;> omega
  have f1 : ∀ o, w1.frozen? ⟨w.heap.size + 1, o, none⟩ = false := fun o => by simp [hf1, go_sem] <;> omega
  clear hc1 hf1
  go_wp2_with fail
  refine (cloneSender_any _ _ _ _ _ _ zs _ hn (by omega) (((hr.alloc _).alloc _).below hb1)).mono ?_
  rintro e w2 ⟨A2, c2, rfl, hown2, hb2⟩
  have hB := below_step hb1 hb2
  have hz2 := hb2.size
  obtain ⟨hc2, hf2⟩ := bcell hB
  clear x0 x1 x2 x3 y0 y1 y2 y3 f0 f1
  have x0 : w2.cell? ⟨w.heap.size, 0, none⟩ = some (.int .i64 nx) := by simp [hc2, go_sem]
  have x1 : w2.cell? ⟨w.heap.size, 1, none⟩ = some (.int .i64 wd) := by simp [hc2, go_sem]
  have x2 : w2.cell? ⟨w.heap.size, 2, none⟩ = some (.slice A n c) := by simp [hc2, go_sem]
  have x3 : w2.cell? ⟨w.heap.size, 3, none⟩ = some (.int .i64 dn) := by simp [hc2, go_sem]
  have y0 : w2.cell? ⟨w.heap.size + 1, 0, none⟩ = some (.int .i64 0) := by simp [hc2, go_sem]
  have y1 : w2.cell? ⟨w.heap.size + 1, 1, none⟩ = some (.int .i64 0) := by simp [hc2, go_sem]
  have y2 : w2.cell? ⟨w.heap.size + 1, 2, none⟩ = some (.slice none 0 0) := by simp [hc2, go_sem]
  have y3 : w2.cell? ⟨w.heap.size + 1, 3, none⟩ = some (.int .i64 0) := by simp [hc2, go_sem]
  have f0 : ∀ o, w2.frozen? ⟨w.heap.size, o, none⟩ = false := fun o => by simp [hf2, go_sem] <;> omega
  have f1 : ∀ o, w2.frozen? ⟨w.heap.size + 1, o, none⟩ = false := fun o => by simp [hf2, go_sem] <;> omega
  clear hc2 hf2
  have hl : w.heap.size + 1 < w2.heap.size := by omega
  have hl0 : w.heap.size < w2.heap.size := by omega
  have hne2 : A2.map (·.block) ≠ some w2.heap.size := own_ne hown2 (Or.inr (Nat.le_refl _))
  have hne0 : A2.map (·.block) ≠ some w.heap.size := own_ne hown2 (Or.inl (by omega))
  have hne1 : A2.map (·.block) ≠ some (w.heap.size + 1) := own_ne hown2 (Or.inl (by omega))
  go_wp2_with (at_builtin; refine wpList_append1 _ rfl (.tmp 15) (.tmp 20) 37 rfl 80 (.agg #[.int .i64 0, .string ⟨#[]⟩]) 2 24 Try.underlying37 infoSent rfl (by decide) w1.heap.size _ _ _ _ rfl (hown2.alloc _) [.int .i64 nx, .string ⟨d.toArray⟩] _ rfl (by simp) rfl (by simp [Value.oneCell']) (by omega) (by simp; omega) ?_; intro g3 c3 w3 hown3 hg3 hb3; have hz3 := hg3.size; simp only [World.size_alloc] at hz3; obtain ⟨hc3, hf3⟩ := rcell hg3; have X0 : w3.cell? ⟨w.heap.size, 0, none⟩ = some (.int .i64 nx) := (hc3 _ _ (by rw [World.size_alloc]; omega) hne0).trans (by simp [go_sem, x0, hl0]); have X1 : w3.cell? ⟨w.heap.size, 1, none⟩ = some (.int .i64 wd) := (hc3 _ _ (by rw [World.size_alloc]; omega) hne0).trans (by simp [go_sem, x1, hl0]); have X2 : w3.cell? ⟨w.heap.size, 2, none⟩ = some (.slice A n c) := (hc3 _ _ (by rw [World.size_alloc]; omega) hne0).trans (by simp [go_sem, x2, hl0]); have X3 : w3.cell? ⟨w.heap.size, 3, none⟩ = some (.int .i64 dn) := (hc3 _ _ (by rw [World.size_alloc]; omega) hne0).trans (by simp [go_sem, x3, hl0]); have Y0 : w3.cell? ⟨w.heap.size + 1, 0, none⟩ = some (.int .i64 0) := (hc3 _ _ (by rw [World.size_alloc]; omega) hne1).trans (by simp [go_sem, y0, hl]); have Y1 : w3.cell? ⟨w.heap.size + 1, 1, none⟩ = some (.int .i64 0) := (hc3 _ _ (by rw [World.size_alloc]; omega) hne1).trans (by simp [go_sem, y1, hl]); have Y2 : w3.cell? ⟨w.heap.size + 1, 2, none⟩ = some (.slice none 0 0) := (hc3 _ _ (by rw [World.size_alloc]; omega) hne1).trans (by simp [go_sem, y2, hl]); have Y3 : w3.cell? ⟨w.heap.size + 1, 3, none⟩ = some (.int .i64 0) := (hc3 _ _ (by rw [World.size_alloc]; omega) hne1).trans (by simp [go_sem, y3, hl]); have Z0 : w3.cell? ⟨w2.heap.size, 0, none⟩ = some (.int .i64 nx) := (hc3 _ _ (by rw [World.size_alloc]; omega) hne2).trans (by simp [go_sem]); have Z1 : w3.cell? ⟨w2.heap.size, 1, none⟩ = some (.int .i64 wd) := (hc3 _ _ (by rw [World.size_alloc]; omega) hne2).trans (by simp [go_sem]); have Z2 : w3.cell? ⟨w2.heap.size, 2, none⟩ = some (.slice A2 n c2) := (hc3 _ _ (by rw [World.size_alloc]; omega) hne2).trans (by simp [go_sem]); have Z3 : w3.cell? ⟨w2.heap.size, 3, none⟩ = some (.int .i64 dn) := (hc3 _ _ (by rw [World.size_alloc]; omega) hne2).trans (by simp [go_sem]); have F1 : ∀ o, w3.frozen? ⟨w.heap.size + 1, o, none⟩ = false := (fun o => (hf3 _ _ (by rw [World.size_alloc]; omega) hne1).trans (by simp [go_sem, f1, hl])); have F2 : ∀ o, w3.frozen? ⟨w2.heap.size, o, none⟩ = false := (fun o => (hf3 _ _ (by rw [World.size_alloc]; omega) hne2).trans (by simp [go_sem])); have hbx := (hg3.block w2.heap.size (by rw [World.size_alloc]; omega) (by first | exact hne2 | exact hne2.symm)).trans (heap_alloc_new w2 _); have hne3 := own_kind hown3 hbx (by decide); clear hc3 hf3 hbx)
  have hl3 : w2.heap.size < w3.heap.size := by omega
  have hm1 : w.heap.size + 1 < w3.heap.size := by omega
  have hm0 : w.heap.size < w3.heap.size := by omega
  have hown3' := own_setCell (own_setCell hown3 ⟨w2.heap.size, 2, none⟩ (.slice (some ⟨g3, 0, none⟩) (n + 1) c3) (fun e => hne3 (by simpa using e))) ⟨w2.heap.size, 0, none⟩ (.int .i64 ((nx + 1) % 256)) (fun e => hne3 (by simpa using e))
  rw [← offZ_flat] at hown3'
  refine (hok2 _ _ _ (Rd.of_own hown3')).mono ?_
  rintro e w4 ⟨rfl, hb4⟩
  have hown4 := own_below hown3' hb4
  have hBW : Below w.heap.size w w3 := ((((Below.refl _ _).alloc (Nat.le_refl _) _).alloc (by simp) _).trans (hB.mono (by simp; omega))).trans (((Below.refl _ _).alloc (by omega) _).trans (hb3.mono (by omega)))
  have hBW4 : Below w.heap.size w w4 := ((hBW.setCell (by simp; omega) _).setCell (by simp; omega) _).trans (hb4.mono (by simp; omega))
  have hz4 := hb4.size
  obtain ⟨hc4, hf4⟩ := bcell hb4
  simp only [World.size_setCell] at hc4 hf4 hz4
  have n4 : w.heap.size + 1 < w4.heap.size := by omega
  clear x0 x1 x2 x3 y0 y1 y2 y3 f0 f1 hB hb1 hb2 hg3 hb3 hown3 hown3' hown2 hb4
  have x0 : w4.cell? ⟨w.heap.size, 0, none⟩ = some (.int .i64 nx) := by simp [hc4, go_sem, X0, hm0]
  have x1 : w4.cell? ⟨w.heap.size, 1, none⟩ = some (.int .i64 wd) := by simp [hc4, go_sem, X1, hm0]
  have x2 : w4.cell? ⟨w.heap.size, 2, none⟩ = some (.slice A n c) := by simp [hc4, go_sem, X2, hm0]
  have x3 : w4.cell? ⟨w.heap.size, 3, none⟩ = some (.int .i64 dn) := by simp [hc4, go_sem, X3, hm0]
  have y0 : w4.cell? ⟨w.heap.size + 1, 0, none⟩ = some (.int .i64 0) := by simp [hc4, go_sem, Y0, hm1]
  have y1 : w4.cell? ⟨w.heap.size + 1, 1, none⟩ = some (.int .i64 0) := by simp [hc4, go_sem, Y1, hm1]
  have y2 : w4.cell? ⟨w.heap.size + 1, 2, none⟩ = some (.slice none 0 0) := by simp [hc4, go_sem, Y2, hm1]
  have y3 : w4.cell? ⟨w.heap.size + 1, 3, none⟩ = some (.int .i64 0) := by simp [hc4, go_sem, Y3, hm1]
  have f1 : ∀ o, w4.frozen? ⟨w.heap.size + 1, o, none⟩ = false := fun o => by simp [hf4, go_sem, F1, hm1]
  have z0 : w4.cell? ⟨w2.heap.size, 0, none⟩ = some (.int .i64 ((nx + 1) % 256)) := by simp [hc4, go_sem, ↓cell_some, Z0, hl3]
  have z1 : w4.cell? ⟨w2.heap.size, 1, none⟩ = some (.int .i64 wd) := by simp [hc4, go_sem, Z1, hl3]
  have z2 : w4.cell? ⟨w2.heap.size, 2, none⟩ = some (.slice (some ⟨g3, 0, none⟩) (n + 1) c3) := by simp [hc4, go_sem, Z2, hl3]
  have z3 : w4.cell? ⟨w2.heap.size, 3, none⟩ = some (.int .i64 dn) := by simp [hc4, go_sem, Z3, hl3]
  clear X0 X1 X2 X3 Y0 Y1 Y2 Y3 Z0 Z1 Z2 Z3 F1 F2 hc4 hf4
  cases b2
  · skip
    go_wp2_with fail
    refine (cloneSender_any _ _ _ _ _ _ zs _ hn (by omega) (hr.below hBW4)).mono ?_
    rintro e w5 ⟨A5, c5, rfl, hown5, hb5⟩
    have hz5 := hb5.size
    obtain ⟨hc5, hf5⟩ := bcell hb5
    have n5 : w.heap.size + 1 < w5.heap.size := by omega
    have u0 : w5.cell? ⟨w.heap.size + 1, 0, none⟩ = some (.int .i64 0) := by simp [hc5, n4, y0]
    have u1 : w5.cell? ⟨w.heap.size + 1, 1, none⟩ = some (.int .i64 0) := by simp [hc5, n4, y1]
    have u2 : w5.cell? ⟨w.heap.size + 1, 2, none⟩ = some (.slice none 0 0) := by simp [hc5, n4, y2]
    have u3 : w5.cell? ⟨w.heap.size + 1, 3, none⟩ = some (.int .i64 0) := by simp [hc5, n4, y3]
    have v1 : ∀ o, w5.frozen? ⟨w.heap.size + 1, o, none⟩ = false := fun o => by simp [hf5, n4, f1]
    go_wp2
    refine bodyPost_ret (v := .tuple #[.agg #[.int .i64 nx, .int .i64 wd, .slice A5 n c5, .int .i64 dn], .bool false]) (by simp [results, Try.results29, go_sem, ↓cell_some, u0, u1, u2, u3]) rfl ⟨A5, c5, rfl, ?_, ?_⟩
    · refine own_base (base' := w4.heap.size) ?_ (by omega)
      repeat refine ownsRow_setCell_below ?_ (by simp <;> omega) _
      exact hown5
    · repeat refine Below.setCell ?_ (by simp) _
      exact below_step hBW4 hb5
  · go_wp2
    refine bodyPost_ret (v := .tuple #[.agg #[.int .i64 ((nx + 1) % 256), .int .i64 wd, .slice (some ⟨g3, 0, none⟩) (n + 1) c3, .int .i64 dn], .bool true]) (by simp [results, Try.results29, go_sem, ↓cell_some, y0, y1, y2, y3]) rfl ⟨some ⟨g3, 0, none⟩, c3, rfl, ?_, ?_⟩
    · refine own_base (base' := w1.heap.size) ?_ (by omega)
      repeat refine ownsRow_setCell_below ?_ (by simp <;> omega) _
      exact hown4
    · repeat refine Below.setCell ?_ (by simp) _
      exact hBW4
end Go.Proofs.Ytpnejmlbfadaaaa
