/- For every sender and every notice the program's HearNotice returns what the reference's returns, in memory of its own, and leaves its argument as it was. No condition. -/
import Derived.Test.YtpnejmlbfadaaaaSndHr
import Derived.Test.YtpnejmlbfadaaaaSndArg
import Derived.Test.YtpnejmlbfadaaaaRecv
import Derived.Test.YtpnejmlbfadaaaaRecvArg
import Derived.Deep.Cut
import Derived.Deep.CutRange
import Derived.Deep.RegionLaw
namespace Go.Proofs.Ytpnejmlbfadaaaa
open Go.RowKit

set_option maxHeartbeats 8000000 in
theorem fnExactHearNotice_walk {w : World} (a b d : Int) (A : Option Addr) (n cp : Nat) (zs : List ESent) (_ha : I64 a) (_hb : I64 b) (_hd : I64 d) (hn : zs.length = n) (_hnc : n ≤ cp) (hcm : cp ≤ maxLen) (hr : Rd w 2 A n (zs.flatMap cSent)) (hwf : ∀ r ∈ zs, wfSent r) (ex : Int) (lk ag : Bool) (_hex : I64 ex) :
    Calls Try.prog 16 #[.agg #[.int .i64 a, .int .i64 b, .slice A n cp, .int .i64 d], .agg #[.int .i64 ex, .bool lk, .bool ag]] w fun e w' => e = .returned (.bool true) ∧ Below w.heap.size w w' := by
  have hB0 : Below w.heap.size w w := Below.refl _ _
  have hrB0 := fun W' (hB : Below w.heap.size w W') => hr.below hB
  subst hn
  unfold maxLen at hcm
  have hT : ∀ z ∈ zs, Txt z.f1 := fun z hz => (hwf z hz).2
  go_enter Try.func16, Try.ntmps16
  go_wp2_with fail
  refine (szSender_any _ _ _ _ _ _ zs _ _ rfl (by omega) (by omega) (by omega) hT (((hrB0 _ hB0).alloc _).alloc _)).mono ?_
  rintro e w1 ⟨q, rfl, hq0, hq1, hq2, hb1⟩
  have hs1 : Below w.heap.size w w1 := (((Below.refl _ _).alloc (Nat.le_refl _) _).alloc (by simp) _).trans (hb1.mono (by simp; omega))
  have hB1 := below_step hB0 hs1
  have hz1 := hb1.size
  simp only [World.size_alloc] at hz1
  have l0_1 : w.heap.size < w1.heap.size := by omega
  have l1_1 : w.heap.size + 1 < w1.heap.size := by omega
  have b0c0_1 : w1.cell? ⟨w.heap.size, 0, none⟩ = some (.int .i64 a) := (hb1.cell (p := ⟨w.heap.size, 0, none⟩) (by simp <;> omega)).trans (by simp [go_sem])
  have b0c1_1 : w1.cell? ⟨w.heap.size, 1, none⟩ = some (.int .i64 b) := (hb1.cell (p := ⟨w.heap.size, 1, none⟩) (by simp <;> omega)).trans (by simp [go_sem])
  have b0c2_1 : w1.cell? ⟨w.heap.size, 2, none⟩ = some (.slice A zs.length cp) := (hb1.cell (p := ⟨w.heap.size, 2, none⟩) (by simp <;> omega)).trans (by simp [go_sem])
  have b0c3_1 : w1.cell? ⟨w.heap.size, 3, none⟩ = some (.int .i64 d) := (hb1.cell (p := ⟨w.heap.size, 3, none⟩) (by simp <;> omega)).trans (by simp [go_sem])
  have b1c0_1 : w1.cell? ⟨w.heap.size + 1, 0, none⟩ = some (.int .i64 ex) := (hb1.cell (p := ⟨w.heap.size + 1, 0, none⟩) (by simp <;> omega)).trans (by simp [go_sem])
  have b1c1_1 : w1.cell? ⟨w.heap.size + 1, 1, none⟩ = some (.bool lk) := (hb1.cell (p := ⟨w.heap.size + 1, 1, none⟩) (by simp <;> omega)).trans (by simp [go_sem])
  have b1c2_1 : w1.cell? ⟨w.heap.size + 1, 2, none⟩ = some (.bool ag) := (hb1.cell (p := ⟨w.heap.size + 1, 2, none⟩) (by simp <;> omega)).trans (by simp [go_sem])
  by_cases hq : q < 0
  · go_wp2
    go_ret
    exact ⟨rfl, hB1⟩
  have hm : zs.length ≤ 1048576 := by have := hq2 (by omega); omega
  obtain ⟨zs', dn', hm', hT', hI, hS⟩ := hears a b zs d ex lk ag hm hT
  go_upto_region 5 with fail
  go_cut [6] from 18 to 22 (fun p wx => ∃ (Q lo : Nat) (A0 : Option Addr) (c0 : Nat), p = .pointer (some ⟨Q, 0, none⟩) ∧ w1.heap.size ≤ Q ∧ Q < wx.heap.size ∧ w1.heap.size ≤ lo ∧ lo ≤ wx.heap.size ∧ wx.ownsRow lo 80 2 (.slice A0 zs'.length c0) zs'.length (zs'.flatMap cSent) ∧ (A0.map (·.block) ≠ some Q) ∧ Below w1.heap.size w1 wx ∧ wx.cell? ⟨Q, 0, none⟩ = some (.int .i64 a) ∧ wx.cell? ⟨Q, 1, none⟩ = some (.int .i64 b) ∧ wx.cell? ⟨Q, 2, none⟩ = some (.slice A0 zs'.length c0) ∧ wx.cell? ⟨Q, 3, none⟩ = some (.int .i64 dn'))
  case first =>
    have HK : Hid (∀ wx, Below w1.heap.size w1 wx → (Below w1.heap.size w1 wx ∧ wx.cell? ⟨w.heap.size, 0, none⟩ = some (.int .i64 a) ∧ wx.cell? ⟨w.heap.size, 1, none⟩ = some (.int .i64 b) ∧ wx.cell? ⟨w.heap.size, 2, none⟩ = some (.slice A zs.length cp) ∧ wx.cell? ⟨w.heap.size, 3, none⟩ = some (.int .i64 d) ∧ wx.cell? ⟨w.heap.size + 1, 0, none⟩ = some (.int .i64 ex) ∧ wx.cell? ⟨w.heap.size + 1, 1, none⟩ = some (.bool lk) ∧ wx.cell? ⟨w.heap.size + 1, 2, none⟩ = some (.bool ag))) := Lib.hid (fun wx h => ⟨h, (h.cell (p := ⟨w.heap.size, 0, none⟩) l0_1).trans b0c0_1, (h.cell (p := ⟨w.heap.size, 1, none⟩) l0_1).trans b0c1_1, (h.cell (p := ⟨w.heap.size, 2, none⟩) l0_1).trans b0c2_1, (h.cell (p := ⟨w.heap.size, 3, none⟩) l0_1).trans b0c3_1, (h.cell (p := ⟨w.heap.size + 1, 0, none⟩) l1_1).trans b1c0_1, (h.cell (p := ⟨w.heap.size + 1, 1, none⟩) l1_1).trans b1c1_1, (h.cell (p := ⟨w.heap.size + 1, 2, none⟩) l1_1).trans b1c2_1⟩)
    obtain ⟨hqD, d0_, d1_, d2_, d3_, d4_, d5_, d6_⟩ := HK.out _ (Below.refl _ _).drew
    have hlqD_0 : w.heap.size < w1.drew.heap.size := l0_1
    have hlqD_1 : w.heap.size + 1 < w1.drew.heap.size := l1_1
    go_region_law (first | (go_simp; go_at_call 46; refine (toSender_any _ _ _ _ _ _ zs _ rfl hm (by first | exact hrB0 _ (below_step hB1 hqD) | exact (hrB0 _ (below_step hB1 hqD)).alloc _)).mono ?_; rintro e v0 ⟨gA, rfl, ownA, hv0⟩; obtain ⟨hq0, d0_0, d0_1, d0_2, d0_3, d0_4, d0_5, d0_6⟩ := HK.out _ (by first | exact below_step hqD hv0 | exact below_step (below_al hqD _) hv0); obtain ⟨hcv0, hfv0⟩ := bcell hv0; have hzv0 := hv0.size; (try simp only [World.size_drew] at hzv0); (try simp only [World.size_alloc] at hzv0); (try simp only [World.size_drew] at hzv0); have hsv0 := hq0.size; (try have hlw0 : w1.heap.size < v0.heap.size := by omega); (try have hld0 : w1.drew.heap.size < v0.heap.size := by first | omega | (rw [World.size_drew]; omega)); (try have hlq0_0 : w.heap.size < v0.heap.size := by omega); (try have hlq1_0 : w.heap.size + 1 < v0.heap.size := by omega); (try have hzc0 : v0.cell? ⟨w1.heap.size, 0, none⟩ = some (.int .i64 0) := (hv0.cell (p := ⟨w1.heap.size, 0, none⟩) (by rw [World.size_alloc, World.size_drew]; omega)).trans (World.cell?_alloc_at _ _ _ _ rfl)); (try have hzc1 : v0.cell? ⟨w1.heap.size, 1, none⟩ = some (.int .i64 0) := (hv0.cell (p := ⟨w1.heap.size, 1, none⟩) (by rw [World.size_alloc, World.size_drew]; omega)).trans (World.cell?_alloc_at _ _ _ _ rfl)); (try have hzc2 : v0.cell? ⟨w1.heap.size, 2, none⟩ = some (.slice none 0 0) := (hv0.cell (p := ⟨w1.heap.size, 2, none⟩) (by rw [World.size_alloc, World.size_drew]; omega)).trans (World.cell?_alloc_at _ _ _ _ rfl)); (try have hzc3 : v0.cell? ⟨w1.heap.size, 3, none⟩ = some (.int .i64 0) := (hv0.cell (p := ⟨w1.heap.size, 3, none⟩) (by rw [World.size_alloc, World.size_drew]; omega)).trans (World.cell?_alloc_at _ _ _ _ rfl)); (try have hzf : ∀ j, v0.frozen? ⟨w1.heap.size, j, none⟩ = false := (fun j => (hv0.frozen (p := ⟨w1.heap.size, j, none⟩) (by rw [World.size_alloc, World.size_drew]; omega)).trans (by simp [go_sem])))) | (go_simp; go_at_call 38; refine (toNotice_any _ _ _ _).mono ?_; rintro e v1 ⟨rfl, hv1⟩; obtain ⟨hq1, d1_0, d1_1, d1_2, d1_3, d1_4, d1_5, d1_6⟩ := HK.out _ (by first | exact below_step hq0 hv1 | exact below_step (below_al hq0 _) hv1); obtain ⟨hcv1, hfv1⟩ := bcell hv1; have hzv1 := hv1.size; (try simp only [World.size_drew] at hzv1); (try simp only [World.size_alloc] at hzv1); (try simp only [World.size_drew] at hzv1); have hsv1 := hq1.size; (try have hlv0_1 : v0.heap.size < v1.heap.size := by omega); (try have hlw1 : w1.heap.size < v1.heap.size := by omega); (try have hld1 : w1.drew.heap.size < v1.heap.size := by first | omega | (rw [World.size_drew]; omega)); (try have hlq0_1 : w.heap.size < v1.heap.size := by omega); (try have hlq1_1 : w.heap.size + 1 < v1.heap.size := by omega)) | (go_simp; go_at_call 56; refine (hS _ _ _ (fun h => by cases h) (Nat.le_refl _) (by first | exact Rd.of_own (own_below ownA hv1) | exact (Rd.of_own (own_below ownA hv1)).alloc _ | exact Rd.of_own (own_below (ownA.alloc _) hv1))).mono ?_; rintro e v2 ⟨A0, c0, rfl, onew, hv2⟩; obtain ⟨hq2, d2_0, d2_1, d2_2, d2_3, d2_4, d2_5, d2_6⟩ := HK.out _ (by first | exact below_step hq1 hv2 | exact below_step (below_al hq1 _) hv2); obtain ⟨hcv2, hfv2⟩ := bcell hv2; have hzv2 := hv2.size; (try simp only [World.size_drew] at hzv2); (try simp only [World.size_alloc] at hzv2); (try simp only [World.size_drew] at hzv2); have hsv2 := hq2.size; (try have hlv0_2 : v0.heap.size < v2.heap.size := by omega); (try have hlv1_2 : v1.heap.size < v2.heap.size := by omega); (try have hlw2 : w1.heap.size < v2.heap.size := by omega); (try have hld2 : w1.drew.heap.size < v2.heap.size := by first | omega | (rw [World.size_drew]; omega)); (try have hlq0_2 : w.heap.size < v2.heap.size := by omega); (try have hlq1_2 : w.heap.size + 1 < v2.heap.size := by omega)))
    all_goals
      go_wp2_with fail
      go_meet
      have onew2 := own_base (base := v1.heap.size) onew (by first | exact Nat.le_refl _ | (rw [World.size_alloc]; omega))
      first
        | (with_reducible refine ⟨v2.heap.size, v1.heap.size, A0, c0, rfl, ?_⟩; exact ⟨hsv2, by simp, hsv1, by rw [World.size_alloc]; omega, onew2.alloc _, own_ne onew (Or.inr (Nat.le_refl _)), below_al hq2 _, by simp [go_sem], by simp [go_sem], by simp [go_sem], by simp [go_sem]⟩)
        | (with_reducible refine ⟨v1.heap.size, v1.heap.size, A0, c0, rfl, ?_⟩; have hne : A0.map (·.block) ≠ some v1.heap.size := own_ne onew (Or.inl (by first | omega | (rw [World.size_alloc]; omega))); have h4 := set4_cells (W := v2) (q := v1.heap.size) (a := .int .i64 a) (b := .int .i64 b) (c := .slice A0 zs'.length c0) (d := .int .i64 dn') (some_of (v := .int .i64 0) ((hcv2 _ _ (by rw [World.size_alloc]; omega)).trans (World.cell?_alloc_at _ _ _ _ rfl))) (some_of (v := .int .i64 0) ((hcv2 _ _ (by rw [World.size_alloc]; omega)).trans (World.cell?_alloc_at _ _ _ _ rfl))) (some_of (v := .slice none 0 0) ((hcv2 _ _ (by rw [World.size_alloc]; omega)).trans (World.cell?_alloc_at _ _ _ _ rfl))) (some_of (v := .int .i64 0) ((hcv2 _ _ (by rw [World.size_alloc]; omega)).trans (World.cell?_alloc_at _ _ _ _ rfl))); exact ⟨by omega, by simp only [World.size_setCell]; omega, hsv1, by simp only [World.size_setCell]; omega, own_setCell (own_setCell (own_setCell (own_setCell onew2 _ _ hne) _ _ hne) _ _ hne) _ _ hne, hne, (((hq2.setCell (show w1.heap.size ≤ v1.heap.size by omega) _).setCell (show w1.heap.size ≤ v1.heap.size by omega) _).setCell (show w1.heap.size ≤ v1.heap.size by omega) _).setCell (show w1.heap.size ≤ v1.heap.size by omega) _, h4⟩)
        | (with_reducible refine ⟨v0.heap.size, v1.heap.size, A0, c0, rfl, ?_⟩; have hne : A0.map (·.block) ≠ some v0.heap.size := own_ne onew (Or.inl (by first | omega | (rw [World.size_alloc]; omega))); have h4 := set4_cells (W := v2) (q := v0.heap.size) (a := .int .i64 a) (b := .int .i64 b) (c := .slice A0 zs'.length c0) (d := .int .i64 dn') (some_of (v := .int .i64 0) ((hcv2 _ _ (by omega)).trans ((hcv1 _ _ (by rw [World.size_alloc]; omega)).trans (World.cell?_alloc_at _ _ _ _ rfl)))) (some_of (v := .int .i64 0) ((hcv2 _ _ (by omega)).trans ((hcv1 _ _ (by rw [World.size_alloc]; omega)).trans (World.cell?_alloc_at _ _ _ _ rfl)))) (some_of (v := .slice none 0 0) ((hcv2 _ _ (by omega)).trans ((hcv1 _ _ (by rw [World.size_alloc]; omega)).trans (World.cell?_alloc_at _ _ _ _ rfl)))) (some_of (v := .int .i64 0) ((hcv2 _ _ (by omega)).trans ((hcv1 _ _ (by rw [World.size_alloc]; omega)).trans (World.cell?_alloc_at _ _ _ _ rfl)))); exact ⟨by omega, by simp only [World.size_setCell]; omega, hsv1, by simp only [World.size_setCell]; omega, own_setCell (own_setCell (own_setCell (own_setCell onew2 _ _ hne) _ _ hne) _ _ hne) _ _ hne, hne, (((hq2.setCell (show w1.heap.size ≤ v0.heap.size by omega) _).setCell (show w1.heap.size ≤ v0.heap.size by omega) _).setCell (show w1.heap.size ≤ v0.heap.size by omega) _).setCell (show w1.heap.size ≤ v0.heap.size by omega) _, h4⟩)
        | (with_reducible refine ⟨w1.heap.size, v1.heap.size, A0, c0, rfl, ?_⟩; have hne : A0.map (·.block) ≠ some w1.heap.size := own_ne onew (Or.inl (by first | omega | (rw [World.size_alloc]; omega))); have h4 := set4_cells (W := v2) (q := w1.heap.size) (a := .int .i64 a) (b := .int .i64 b) (c := .slice A0 zs'.length c0) (d := .int .i64 dn') (some_of (v := .int .i64 0) ((hcv2 _ _ (by omega)).trans ((hcv1 _ _ (by omega)).trans ((hcv0 _ _ (by rw [World.size_drew, World.size_alloc]; exact Nat.lt_succ_self _)).trans ((cell_drew _ _).trans (World.cell?_alloc_at _ _ _ _ rfl)))))) (some_of (v := .int .i64 0) ((hcv2 _ _ (by omega)).trans ((hcv1 _ _ (by omega)).trans ((hcv0 _ _ (by rw [World.size_drew, World.size_alloc]; exact Nat.lt_succ_self _)).trans ((cell_drew _ _).trans (World.cell?_alloc_at _ _ _ _ rfl)))))) (some_of (v := .slice none 0 0) ((hcv2 _ _ (by omega)).trans ((hcv1 _ _ (by omega)).trans ((hcv0 _ _ (by rw [World.size_drew, World.size_alloc]; exact Nat.lt_succ_self _)).trans ((cell_drew _ _).trans (World.cell?_alloc_at _ _ _ _ rfl)))))) (some_of (v := .int .i64 0) ((hcv2 _ _ (by omega)).trans ((hcv1 _ _ (by omega)).trans ((hcv0 _ _ (by rw [World.size_drew, World.size_alloc]; exact Nat.lt_succ_self _)).trans ((cell_drew _ _).trans (World.cell?_alloc_at _ _ _ _ rfl)))))); exact ⟨by omega, by simp only [World.size_setCell]; omega, hsv1, by simp only [World.size_setCell]; omega, own_setCell (own_setCell (own_setCell (own_setCell onew2 _ _ hne) _ _ hne) _ _ hne) _ _ hne, hne, (((hq2.setCell (show w1.heap.size ≤ w1.heap.size by omega) _).setCell (show w1.heap.size ≤ w1.heap.size by omega) _).setCell (show w1.heap.size ≤ w1.heap.size by omega) _).setCell (show w1.heap.size ≤ w1.heap.size by omega) _, h4⟩)
  case rest =>
    obtain ⟨w2, hwc⟩ : ∃ W, W = wc := ⟨wc, rfl⟩
    subst hwc
    obtain ⟨Q2, lo2, A0, c0, rfl, hQa2, hQb2, hlo2, hlu2, onew, hN2, hb2, hbc0, hbc1, hbc2, hbc3⟩ := hcut
    have hs2 : Below w1.heap.size w1 w2 := hb2
    have hB2 := below_step hB1 hs2
    have hz2 := hb2.size
    have l0_2 : w.heap.size < w2.heap.size := by omega
    have l1_2 : w.heap.size + 1 < w2.heap.size := by omega
    have b0c0_2 : w2.cell? ⟨w.heap.size, 0, none⟩ = some (.int .i64 a) := (hb2.cell (p := ⟨w.heap.size, 0, none⟩) l0_1).trans b0c0_1
    have b0c1_2 : w2.cell? ⟨w.heap.size, 1, none⟩ = some (.int .i64 b) := (hb2.cell (p := ⟨w.heap.size, 1, none⟩) l0_1).trans b0c1_1
    have b0c2_2 : w2.cell? ⟨w.heap.size, 2, none⟩ = some (.slice A zs.length cp) := (hb2.cell (p := ⟨w.heap.size, 2, none⟩) l0_1).trans b0c2_1
    have b0c3_2 : w2.cell? ⟨w.heap.size, 3, none⟩ = some (.int .i64 d) := (hb2.cell (p := ⟨w.heap.size, 3, none⟩) l0_1).trans b0c3_1
    have b1c0_2 : w2.cell? ⟨w.heap.size + 1, 0, none⟩ = some (.int .i64 ex) := (hb2.cell (p := ⟨w.heap.size + 1, 0, none⟩) l1_1).trans b1c0_1
    have b1c1_2 : w2.cell? ⟨w.heap.size + 1, 1, none⟩ = some (.bool lk) := (hb2.cell (p := ⟨w.heap.size + 1, 1, none⟩) l1_1).trans b1c1_1
    have b1c2_2 : w2.cell? ⟨w.heap.size + 1, 2, none⟩ = some (.bool ag) := (hb2.cell (p := ⟨w.heap.size + 1, 2, none⟩) l1_1).trans b1c2_1
    clear b0c0_1 b0c1_1 b0c2_1 b0c3_1 b1c0_1 b1c1_1 b1c2_1
    have l2_2 := hQb2
    have b2c0_2 := hbc0
    have b2c1_2 := hbc1
    have b2c2_2 := hbc2
    have b2c3_2 := hbc3
    clear hbc0 hbc1 hbc2 hbc3
    have o0_2 := onew
    have hA0 := own_row onew
    clear onew
    go_wp2_with fail
    refine (toSender_any _ _ _ _ _ _ zs _ rfl hm (hrB0 _ hB2)).mono ?_
    rintro e w3 ⟨g2, rfl, onew, hb3⟩
    have hs3 : Below w2.heap.size w2 w3 := hb3
    have hB3 := below_step hB2 hs3
    have hz3 := hb3.size
    have l0_3 : w.heap.size < w3.heap.size := by omega
    have l1_3 : w.heap.size + 1 < w3.heap.size := by omega
    have l2_3 : Q2 < w3.heap.size := by omega
    have b0c0_3 : w3.cell? ⟨w.heap.size, 0, none⟩ = some (.int .i64 a) := (hb3.cell (p := ⟨w.heap.size, 0, none⟩) l0_2).trans b0c0_2
    have b0c1_3 : w3.cell? ⟨w.heap.size, 1, none⟩ = some (.int .i64 b) := (hb3.cell (p := ⟨w.heap.size, 1, none⟩) l0_2).trans b0c1_2
    have b0c2_3 : w3.cell? ⟨w.heap.size, 2, none⟩ = some (.slice A zs.length cp) := (hb3.cell (p := ⟨w.heap.size, 2, none⟩) l0_2).trans b0c2_2
    have b0c3_3 : w3.cell? ⟨w.heap.size, 3, none⟩ = some (.int .i64 d) := (hb3.cell (p := ⟨w.heap.size, 3, none⟩) l0_2).trans b0c3_2
    have b1c0_3 : w3.cell? ⟨w.heap.size + 1, 0, none⟩ = some (.int .i64 ex) := (hb3.cell (p := ⟨w.heap.size + 1, 0, none⟩) l1_2).trans b1c0_2
    have b1c1_3 : w3.cell? ⟨w.heap.size + 1, 1, none⟩ = some (.bool lk) := (hb3.cell (p := ⟨w.heap.size + 1, 1, none⟩) l1_2).trans b1c1_2
    have b1c2_3 : w3.cell? ⟨w.heap.size + 1, 2, none⟩ = some (.bool ag) := (hb3.cell (p := ⟨w.heap.size + 1, 2, none⟩) l1_2).trans b1c2_2
    have b2c0_3 : w3.cell? ⟨Q2, 0, none⟩ = some (.int .i64 a) := (hb3.cell (p := ⟨Q2, 0, none⟩) l2_2).trans b2c0_2
    have b2c1_3 : w3.cell? ⟨Q2, 1, none⟩ = some (.int .i64 b) := (hb3.cell (p := ⟨Q2, 1, none⟩) l2_2).trans b2c1_2
    have b2c2_3 : w3.cell? ⟨Q2, 2, none⟩ = some (.slice A0 zs'.length c0) := (hb3.cell (p := ⟨Q2, 2, none⟩) l2_2).trans b2c2_2
    have b2c3_3 : w3.cell? ⟨Q2, 3, none⟩ = some (.int .i64 dn') := (hb3.cell (p := ⟨Q2, 3, none⟩) l2_2).trans b2c3_2
    have o0_3 := own_below o0_2 hs3
    clear b0c0_2 b0c1_2 b0c2_2 b0c3_2 b1c0_2 b1c1_2 b1c2_2 b2c0_2 b2c1_2 b2c2_2 b2c3_2
    have o1_3 := onew
    have hA1 := own_row onew
    clear onew
    go_upto_region 7 with fail
    obtain ⟨w4, hw4⟩ : ∃ W, W = (w3.alloc (.cells #[.int .i64 a, .int .i64 b, .slice (some ⟨g2, 0, none⟩) zs.length zs.length, .int .i64 d] 39)) := ⟨_, rfl⟩
    have hb4 : Below (w3.alloc (.cells #[.int .i64 a, .int .i64 b, .slice (some ⟨g2, 0, none⟩) zs.length zs.length, .int .i64 d] 39)).heap.size (w3.alloc (.cells #[.int .i64 a, .int .i64 b, .slice (some ⟨g2, 0, none⟩) zs.length zs.length, .int .i64 d] 39)) w4 := by rw [hw4]; exact Below.refl _ _
    rw [← hw4]
    clear hw4
    have hs4 : Below w3.heap.size w3 w4 := ((Below.refl _ _).alloc (Nat.le_refl _) _).trans (hb4.mono (by simp))
    have hB4 := below_step hB3 hs4
    have hz4 := hb4.size
    simp only [World.size_alloc] at hz4
    have l0_4 : w.heap.size < w4.heap.size := by omega
    have l1_4 : w.heap.size + 1 < w4.heap.size := by omega
    have l2_4 : Q2 < w4.heap.size := by omega
    have l3_4 : w3.heap.size < w4.heap.size := by omega
    have b0c0_4 : w4.cell? ⟨w.heap.size, 0, none⟩ = some (.int .i64 a) := (hb4.cell (p := ⟨w.heap.size, 0, none⟩) (by simp; omega)).trans (by simp [go_sem, b0c0_3, l0_3])
    have b0c1_4 : w4.cell? ⟨w.heap.size, 1, none⟩ = some (.int .i64 b) := (hb4.cell (p := ⟨w.heap.size, 1, none⟩) (by simp; omega)).trans (by simp [go_sem, b0c1_3, l0_3])
    have b0c2_4 : w4.cell? ⟨w.heap.size, 2, none⟩ = some (.slice A zs.length cp) := (hb4.cell (p := ⟨w.heap.size, 2, none⟩) (by simp; omega)).trans (by simp [go_sem, b0c2_3, l0_3])
    have b0c3_4 : w4.cell? ⟨w.heap.size, 3, none⟩ = some (.int .i64 d) := (hb4.cell (p := ⟨w.heap.size, 3, none⟩) (by simp; omega)).trans (by simp [go_sem, b0c3_3, l0_3])
    have b1c0_4 : w4.cell? ⟨w.heap.size + 1, 0, none⟩ = some (.int .i64 ex) := (hb4.cell (p := ⟨w.heap.size + 1, 0, none⟩) (by simp; omega)).trans (by simp [go_sem, b1c0_3, l1_3])
    have b1c1_4 : w4.cell? ⟨w.heap.size + 1, 1, none⟩ = some (.bool lk) := (hb4.cell (p := ⟨w.heap.size + 1, 1, none⟩) (by simp; omega)).trans (by simp [go_sem, b1c1_3, l1_3])
    have b1c2_4 : w4.cell? ⟨w.heap.size + 1, 2, none⟩ = some (.bool ag) := (hb4.cell (p := ⟨w.heap.size + 1, 2, none⟩) (by simp; omega)).trans (by simp [go_sem, b1c2_3, l1_3])
    have b2c0_4 : w4.cell? ⟨Q2, 0, none⟩ = some (.int .i64 a) := (hb4.cell (p := ⟨Q2, 0, none⟩) (by simp; omega)).trans (by simp [go_sem, b2c0_3, l2_3])
    have b2c1_4 : w4.cell? ⟨Q2, 1, none⟩ = some (.int .i64 b) := (hb4.cell (p := ⟨Q2, 1, none⟩) (by simp; omega)).trans (by simp [go_sem, b2c1_3, l2_3])
    have b2c2_4 : w4.cell? ⟨Q2, 2, none⟩ = some (.slice A0 zs'.length c0) := (hb4.cell (p := ⟨Q2, 2, none⟩) (by simp; omega)).trans (by simp [go_sem, b2c2_3, l2_3])
    have b2c3_4 : w4.cell? ⟨Q2, 3, none⟩ = some (.int .i64 dn') := (hb4.cell (p := ⟨Q2, 3, none⟩) (by simp; omega)).trans (by simp [go_sem, b2c3_3, l2_3])
    have b3c0_4 : w4.cell? ⟨w3.heap.size, 0, none⟩ = some (.int .i64 a) := (hb4.cell (p := ⟨w3.heap.size, 0, none⟩) (by simp)).trans (by simp [go_sem])
    have b3c1_4 : w4.cell? ⟨w3.heap.size, 1, none⟩ = some (.int .i64 b) := (hb4.cell (p := ⟨w3.heap.size, 1, none⟩) (by simp)).trans (by simp [go_sem])
    have b3c2_4 : w4.cell? ⟨w3.heap.size, 2, none⟩ = some (.slice (some ⟨g2, 0, none⟩) zs.length zs.length) := (hb4.cell (p := ⟨w3.heap.size, 2, none⟩) (by simp)).trans (by simp [go_sem])
    have b3c3_4 : w4.cell? ⟨w3.heap.size, 3, none⟩ = some (.int .i64 d) := (hb4.cell (p := ⟨w3.heap.size, 3, none⟩) (by simp)).trans (by simp [go_sem])
    have o0_4 := own_below o0_3 hs4
    have o1_4 := own_below o1_3 hs4
    clear b0c0_3 b0c1_3 b0c2_3 b0c3_3 b1c0_3 b1c1_3 b1c2_3 b2c0_3 b2c1_3 b2c2_3 b2c3_3
    go_cut [8] from 25 to 28 (fun p wx => ∃ (Q lo : Nat) (A3 : Option Addr) (c3 : Nat), p = .pointer (some ⟨Q, 0, none⟩) ∧ w4.heap.size ≤ Q ∧ Q < wx.heap.size ∧ w4.heap.size ≤ lo ∧ lo ≤ wx.heap.size ∧ wx.ownsRow lo 80 2 (.slice A3 zs'.length c3) zs'.length (zs'.flatMap cSent) ∧ (A3.map (·.block) ≠ some Q) ∧ Below w4.heap.size w4 wx ∧ wx.cell? ⟨Q, 0, none⟩ = some (.int .i64 a) ∧ wx.cell? ⟨Q, 1, none⟩ = some (.int .i64 b) ∧ wx.cell? ⟨Q, 2, none⟩ = some (.slice A3 zs'.length c3) ∧ wx.cell? ⟨Q, 3, none⟩ = some (.int .i64 dn'))
    case first =>
      have HK : Hid (∀ wx, Below w4.heap.size w4 wx → (Below w4.heap.size w4 wx ∧ wx.cell? ⟨w3.heap.size, 0, none⟩ = some (.int .i64 a) ∧ wx.cell? ⟨w3.heap.size, 1, none⟩ = some (.int .i64 b) ∧ wx.cell? ⟨w3.heap.size, 2, none⟩ = some (.slice (some ⟨g2, 0, none⟩) zs.length zs.length) ∧ wx.cell? ⟨w3.heap.size, 3, none⟩ = some (.int .i64 d) ∧ wx.cell? ⟨w.heap.size + 1, 0, none⟩ = some (.int .i64 ex) ∧ wx.cell? ⟨w.heap.size + 1, 1, none⟩ = some (.bool lk) ∧ wx.cell? ⟨w.heap.size + 1, 2, none⟩ = some (.bool ag))) := Lib.hid (fun wx h => ⟨h, (h.cell (p := ⟨w3.heap.size, 0, none⟩) l3_4).trans b3c0_4, (h.cell (p := ⟨w3.heap.size, 1, none⟩) l3_4).trans b3c1_4, (h.cell (p := ⟨w3.heap.size, 2, none⟩) l3_4).trans b3c2_4, (h.cell (p := ⟨w3.heap.size, 3, none⟩) l3_4).trans b3c3_4, (h.cell (p := ⟨w.heap.size + 1, 0, none⟩) l1_4).trans b1c0_4, (h.cell (p := ⟨w.heap.size + 1, 1, none⟩) l1_4).trans b1c1_4, (h.cell (p := ⟨w.heap.size + 1, 2, none⟩) l1_4).trans b1c2_4⟩)
      obtain ⟨hqD, d0_, d1_, d2_, d3_, d4_, d5_, d6_⟩ := HK.out _ (Below.refl _ _).drew
      have hlqD_0 : w3.heap.size < w4.drew.heap.size := l3_4
      have hlqD_1 : w.heap.size + 1 < w4.drew.heap.size := l1_4
      go_region_law (first | (go_simp; go_at_call 38; refine (toNotice_any _ _ _ _).mono ?_; rintro e v0 ⟨rfl, hv0⟩; obtain ⟨hq0, d0_0, d0_1, d0_2, d0_3, d0_4, d0_5, d0_6⟩ := HK.out _ (by first | exact below_step hqD hv0 | exact below_step (below_al hqD _) hv0); obtain ⟨hcv0, hfv0⟩ := bcell hv0; have hzv0 := hv0.size; (try simp only [World.size_drew] at hzv0); (try simp only [World.size_alloc] at hzv0); (try simp only [World.size_drew] at hzv0); have hsv0 := hq0.size; (try have hlw0 : w4.heap.size < v0.heap.size := by omega); (try have hld0 : w4.drew.heap.size < v0.heap.size := by first | omega | (rw [World.size_drew]; omega)); (try have hlq0_0 : w3.heap.size < v0.heap.size := by omega); (try have hlq1_0 : w.heap.size + 1 < v0.heap.size := by omega); (try have hzc0 : v0.cell? ⟨w4.heap.size, 0, none⟩ = some (.int .i64 0) := (hv0.cell (p := ⟨w4.heap.size, 0, none⟩) (by rw [World.size_alloc, World.size_drew]; omega)).trans (World.cell?_alloc_at _ _ _ _ rfl)); (try have hzc1 : v0.cell? ⟨w4.heap.size, 1, none⟩ = some (.int .i64 0) := (hv0.cell (p := ⟨w4.heap.size, 1, none⟩) (by rw [World.size_alloc, World.size_drew]; omega)).trans (World.cell?_alloc_at _ _ _ _ rfl)); (try have hzc2 : v0.cell? ⟨w4.heap.size, 2, none⟩ = some (.slice none 0 0) := (hv0.cell (p := ⟨w4.heap.size, 2, none⟩) (by rw [World.size_alloc, World.size_drew]; omega)).trans (World.cell?_alloc_at _ _ _ _ rfl)); (try have hzc3 : v0.cell? ⟨w4.heap.size, 3, none⟩ = some (.int .i64 0) := (hv0.cell (p := ⟨w4.heap.size, 3, none⟩) (by rw [World.size_alloc, World.size_drew]; omega)).trans (World.cell?_alloc_at _ _ _ _ rfl)); (try have hzf : ∀ j, v0.frozen? ⟨w4.heap.size, j, none⟩ = false := (fun j => (hv0.frozen (p := ⟨w4.heap.size, j, none⟩) (by rw [World.size_alloc, World.size_drew]; omega)).trans (by simp [go_sem])))) | (go_simp; go_at_call 34; refine (hI _ _ _ (fun h => by cases h) (Nat.le_refl _) (by first | exact (Rd.of_own o1_4).below hq0 | exact ((Rd.of_own o1_4).below hq0).alloc _)).mono ?_; rintro e v1 ⟨A3, c3, rfl, onew, hv1⟩; obtain ⟨hq1, d1_0, d1_1, d1_2, d1_3, d1_4, d1_5, d1_6⟩ := HK.out _ (by first | exact below_step hq0 hv1 | exact below_step (below_al hq0 _) hv1); obtain ⟨hcv1, hfv1⟩ := bcell hv1; have hzv1 := hv1.size; (try simp only [World.size_drew] at hzv1); (try simp only [World.size_alloc] at hzv1); (try simp only [World.size_drew] at hzv1); have hsv1 := hq1.size; (try have hlv0_1 : v0.heap.size < v1.heap.size := by omega); (try have hlw1 : w4.heap.size < v1.heap.size := by omega); (try have hld1 : w4.drew.heap.size < v1.heap.size := by first | omega | (rw [World.size_drew]; omega)); (try have hlq0_1 : w3.heap.size < v1.heap.size := by omega); (try have hlq1_1 : w.heap.size + 1 < v1.heap.size := by omega)))
      all_goals
        go_wp2_with fail
        go_meet
        have onew2 := own_base (base := v0.heap.size) onew (by first | exact Nat.le_refl _ | (rw [World.size_alloc]; omega))
        first
          | (with_reducible refine ⟨v1.heap.size, v0.heap.size, A3, c3, rfl, ?_⟩; exact ⟨hsv1, by simp, hsv0, by rw [World.size_alloc]; omega, onew2.alloc _, own_ne onew (Or.inr (Nat.le_refl _)), below_al hq1 _, by simp [go_sem], by simp [go_sem], by simp [go_sem], by simp [go_sem]⟩)
          | (with_reducible refine ⟨v0.heap.size, v0.heap.size, A3, c3, rfl, ?_⟩; have hne : A3.map (·.block) ≠ some v0.heap.size := own_ne onew (Or.inl (by first | omega | (rw [World.size_alloc]; omega))); have h4 := set4_cells (W := v1) (q := v0.heap.size) (a := .int .i64 a) (b := .int .i64 b) (c := .slice A3 zs'.length c3) (d := .int .i64 dn') (some_of (v := .int .i64 0) ((hcv1 _ _ (by rw [World.size_alloc]; omega)).trans (World.cell?_alloc_at _ _ _ _ rfl))) (some_of (v := .int .i64 0) ((hcv1 _ _ (by rw [World.size_alloc]; omega)).trans (World.cell?_alloc_at _ _ _ _ rfl))) (some_of (v := .slice none 0 0) ((hcv1 _ _ (by rw [World.size_alloc]; omega)).trans (World.cell?_alloc_at _ _ _ _ rfl))) (some_of (v := .int .i64 0) ((hcv1 _ _ (by rw [World.size_alloc]; omega)).trans (World.cell?_alloc_at _ _ _ _ rfl))); exact ⟨by omega, by simp only [World.size_setCell]; omega, hsv0, by simp only [World.size_setCell]; omega, own_setCell (own_setCell (own_setCell (own_setCell onew2 _ _ hne) _ _ hne) _ _ hne) _ _ hne, hne, (((hq1.setCell (show w4.heap.size ≤ v0.heap.size by omega) _).setCell (show w4.heap.size ≤ v0.heap.size by omega) _).setCell (show w4.heap.size ≤ v0.heap.size by omega) _).setCell (show w4.heap.size ≤ v0.heap.size by omega) _, h4⟩)
          | (with_reducible refine ⟨w4.heap.size, v0.heap.size, A3, c3, rfl, ?_⟩; have hne : A3.map (·.block) ≠ some w4.heap.size := own_ne onew (Or.inl (by first | omega | (rw [World.size_alloc]; omega))); have h4 := set4_cells (W := v1) (q := w4.heap.size) (a := .int .i64 a) (b := .int .i64 b) (c := .slice A3 zs'.length c3) (d := .int .i64 dn') (some_of (v := .int .i64 0) ((hcv1 _ _ (by omega)).trans ((hcv0 _ _ (by rw [World.size_drew, World.size_alloc]; exact Nat.lt_succ_self _)).trans ((cell_drew _ _).trans (World.cell?_alloc_at _ _ _ _ rfl))))) (some_of (v := .int .i64 0) ((hcv1 _ _ (by omega)).trans ((hcv0 _ _ (by rw [World.size_drew, World.size_alloc]; exact Nat.lt_succ_self _)).trans ((cell_drew _ _).trans (World.cell?_alloc_at _ _ _ _ rfl))))) (some_of (v := .slice none 0 0) ((hcv1 _ _ (by omega)).trans ((hcv0 _ _ (by rw [World.size_drew, World.size_alloc]; exact Nat.lt_succ_self _)).trans ((cell_drew _ _).trans (World.cell?_alloc_at _ _ _ _ rfl))))) (some_of (v := .int .i64 0) ((hcv1 _ _ (by omega)).trans ((hcv0 _ _ (by rw [World.size_drew, World.size_alloc]; exact Nat.lt_succ_self _)).trans ((cell_drew _ _).trans (World.cell?_alloc_at _ _ _ _ rfl))))); exact ⟨by omega, by simp only [World.size_setCell]; omega, hsv0, by simp only [World.size_setCell]; omega, own_setCell (own_setCell (own_setCell (own_setCell onew2 _ _ hne) _ _ hne) _ _ hne) _ _ hne, hne, (((hq1.setCell (show w4.heap.size ≤ w4.heap.size by omega) _).setCell (show w4.heap.size ≤ w4.heap.size by omega) _).setCell (show w4.heap.size ≤ w4.heap.size by omega) _).setCell (show w4.heap.size ≤ w4.heap.size by omega) _, h4⟩)
    case rest =>
      obtain ⟨w5, hwc⟩ : ∃ W, W = wc := ⟨wc, rfl⟩
      subst hwc
      obtain ⟨Q5, lo5, A3, c3, rfl, hQa5, hQb5, hlo5, hlu5, onew, hN5, hb5, hbc0, hbc1, hbc2, hbc3⟩ := hcut
      have hs5 : Below w4.heap.size w4 w5 := hb5
      have hB5 := below_step hB4 hs5
      have hz5 := hb5.size
      have l0_5 : w.heap.size < w5.heap.size := by omega
      have l1_5 : w.heap.size + 1 < w5.heap.size := by omega
      have l2_5 : Q2 < w5.heap.size := by omega
      have l3_5 : w3.heap.size < w5.heap.size := by omega
      have b0c0_5 : w5.cell? ⟨w.heap.size, 0, none⟩ = some (.int .i64 a) := (hb5.cell (p := ⟨w.heap.size, 0, none⟩) l0_4).trans b0c0_4
      have b0c1_5 : w5.cell? ⟨w.heap.size, 1, none⟩ = some (.int .i64 b) := (hb5.cell (p := ⟨w.heap.size, 1, none⟩) l0_4).trans b0c1_4
      have b0c2_5 : w5.cell? ⟨w.heap.size, 2, none⟩ = some (.slice A zs.length cp) := (hb5.cell (p := ⟨w.heap.size, 2, none⟩) l0_4).trans b0c2_4
      have b0c3_5 : w5.cell? ⟨w.heap.size, 3, none⟩ = some (.int .i64 d) := (hb5.cell (p := ⟨w.heap.size, 3, none⟩) l0_4).trans b0c3_4
      have b1c0_5 : w5.cell? ⟨w.heap.size + 1, 0, none⟩ = some (.int .i64 ex) := (hb5.cell (p := ⟨w.heap.size + 1, 0, none⟩) l1_4).trans b1c0_4
      have b1c1_5 : w5.cell? ⟨w.heap.size + 1, 1, none⟩ = some (.bool lk) := (hb5.cell (p := ⟨w.heap.size + 1, 1, none⟩) l1_4).trans b1c1_4
      have b1c2_5 : w5.cell? ⟨w.heap.size + 1, 2, none⟩ = some (.bool ag) := (hb5.cell (p := ⟨w.heap.size + 1, 2, none⟩) l1_4).trans b1c2_4
      have b2c0_5 : w5.cell? ⟨Q2, 0, none⟩ = some (.int .i64 a) := (hb5.cell (p := ⟨Q2, 0, none⟩) l2_4).trans b2c0_4
      have b2c1_5 : w5.cell? ⟨Q2, 1, none⟩ = some (.int .i64 b) := (hb5.cell (p := ⟨Q2, 1, none⟩) l2_4).trans b2c1_4
      have b2c2_5 : w5.cell? ⟨Q2, 2, none⟩ = some (.slice A0 zs'.length c0) := (hb5.cell (p := ⟨Q2, 2, none⟩) l2_4).trans b2c2_4
      have b2c3_5 : w5.cell? ⟨Q2, 3, none⟩ = some (.int .i64 dn') := (hb5.cell (p := ⟨Q2, 3, none⟩) l2_4).trans b2c3_4
      have b3c0_5 : w5.cell? ⟨w3.heap.size, 0, none⟩ = some (.int .i64 a) := (hb5.cell (p := ⟨w3.heap.size, 0, none⟩) l3_4).trans b3c0_4
      have b3c1_5 : w5.cell? ⟨w3.heap.size, 1, none⟩ = some (.int .i64 b) := (hb5.cell (p := ⟨w3.heap.size, 1, none⟩) l3_4).trans b3c1_4
      have b3c2_5 : w5.cell? ⟨w3.heap.size, 2, none⟩ = some (.slice (some ⟨g2, 0, none⟩) zs.length zs.length) := (hb5.cell (p := ⟨w3.heap.size, 2, none⟩) l3_4).trans b3c2_4
      have b3c3_5 : w5.cell? ⟨w3.heap.size, 3, none⟩ = some (.int .i64 d) := (hb5.cell (p := ⟨w3.heap.size, 3, none⟩) l3_4).trans b3c3_4
      have o0_5 := own_below o0_4 hs5
      have o1_5 := own_below o1_4 hs5
      clear b0c0_4 b0c1_4 b0c2_4 b0c3_4 b1c0_4 b1c1_4 b1c2_4 b2c0_4 b2c1_4 b2c2_4 b2c3_4 b3c0_4 b3c1_4 b3c2_4 b3c3_4
      have l4_5 := hQb5
      have b4c0_5 := hbc0
      have b4c1_5 := hbc1
      have b4c2_5 := hbc2
      have b4c3_5 := hbc3
      clear hbc0 hbc1 hbc2 hbc3
      have o2_5 := onew
      have hA2 := own_row onew
      clear onew
      go_wp2_with fail
      refine (eqSender_same _ _ _ _ _ _ _ _ _ zs' _ rfl rfl (by omega) (Rd.of_own o2_5) (Rd.of_own o0_5)).mono ?_
      rintro e w6 ⟨rfl, hb6⟩
      have hs6 : Below w5.heap.size w5 w6 := hb6
      have hB6 := below_step hB5 hs6
      have hz6 := hb6.size
      have l0_6 : w.heap.size < w6.heap.size := by omega
      have l1_6 : w.heap.size + 1 < w6.heap.size := by omega
      have l2_6 : Q2 < w6.heap.size := by omega
      have l3_6 : w3.heap.size < w6.heap.size := by omega
      have l4_6 : Q5 < w6.heap.size := by omega
      have b0c0_6 : w6.cell? ⟨w.heap.size, 0, none⟩ = some (.int .i64 a) := (hb6.cell (p := ⟨w.heap.size, 0, none⟩) l0_5).trans b0c0_5
      have b0c1_6 : w6.cell? ⟨w.heap.size, 1, none⟩ = some (.int .i64 b) := (hb6.cell (p := ⟨w.heap.size, 1, none⟩) l0_5).trans b0c1_5
      have b0c2_6 : w6.cell? ⟨w.heap.size, 2, none⟩ = some (.slice A zs.length cp) := (hb6.cell (p := ⟨w.heap.size, 2, none⟩) l0_5).trans b0c2_5
      have b0c3_6 : w6.cell? ⟨w.heap.size, 3, none⟩ = some (.int .i64 d) := (hb6.cell (p := ⟨w.heap.size, 3, none⟩) l0_5).trans b0c3_5
      have b1c0_6 : w6.cell? ⟨w.heap.size + 1, 0, none⟩ = some (.int .i64 ex) := (hb6.cell (p := ⟨w.heap.size + 1, 0, none⟩) l1_5).trans b1c0_5
      have b1c1_6 : w6.cell? ⟨w.heap.size + 1, 1, none⟩ = some (.bool lk) := (hb6.cell (p := ⟨w.heap.size + 1, 1, none⟩) l1_5).trans b1c1_5
      have b1c2_6 : w6.cell? ⟨w.heap.size + 1, 2, none⟩ = some (.bool ag) := (hb6.cell (p := ⟨w.heap.size + 1, 2, none⟩) l1_5).trans b1c2_5
      have b2c0_6 : w6.cell? ⟨Q2, 0, none⟩ = some (.int .i64 a) := (hb6.cell (p := ⟨Q2, 0, none⟩) l2_5).trans b2c0_5
      have b2c1_6 : w6.cell? ⟨Q2, 1, none⟩ = some (.int .i64 b) := (hb6.cell (p := ⟨Q2, 1, none⟩) l2_5).trans b2c1_5
      have b2c2_6 : w6.cell? ⟨Q2, 2, none⟩ = some (.slice A0 zs'.length c0) := (hb6.cell (p := ⟨Q2, 2, none⟩) l2_5).trans b2c2_5
      have b2c3_6 : w6.cell? ⟨Q2, 3, none⟩ = some (.int .i64 dn') := (hb6.cell (p := ⟨Q2, 3, none⟩) l2_5).trans b2c3_5
      have b3c0_6 : w6.cell? ⟨w3.heap.size, 0, none⟩ = some (.int .i64 a) := (hb6.cell (p := ⟨w3.heap.size, 0, none⟩) l3_5).trans b3c0_5
      have b3c1_6 : w6.cell? ⟨w3.heap.size, 1, none⟩ = some (.int .i64 b) := (hb6.cell (p := ⟨w3.heap.size, 1, none⟩) l3_5).trans b3c1_5
      have b3c2_6 : w6.cell? ⟨w3.heap.size, 2, none⟩ = some (.slice (some ⟨g2, 0, none⟩) zs.length zs.length) := (hb6.cell (p := ⟨w3.heap.size, 2, none⟩) l3_5).trans b3c2_5
      have b3c3_6 : w6.cell? ⟨w3.heap.size, 3, none⟩ = some (.int .i64 d) := (hb6.cell (p := ⟨w3.heap.size, 3, none⟩) l3_5).trans b3c3_5
      have b4c0_6 : w6.cell? ⟨Q5, 0, none⟩ = some (.int .i64 a) := (hb6.cell (p := ⟨Q5, 0, none⟩) l4_5).trans b4c0_5
      have b4c1_6 : w6.cell? ⟨Q5, 1, none⟩ = some (.int .i64 b) := (hb6.cell (p := ⟨Q5, 1, none⟩) l4_5).trans b4c1_5
      have b4c2_6 : w6.cell? ⟨Q5, 2, none⟩ = some (.slice A3 zs'.length c3) := (hb6.cell (p := ⟨Q5, 2, none⟩) l4_5).trans b4c2_5
      have b4c3_6 : w6.cell? ⟨Q5, 3, none⟩ = some (.int .i64 dn') := (hb6.cell (p := ⟨Q5, 3, none⟩) l4_5).trans b4c3_5
      have o0_6 := own_below o0_5 hs6
      have o1_6 := own_below o1_5 hs6
      have o2_6 := own_below o2_5 hs6
      clear b0c0_5 b0c1_5 b0c2_5 b0c3_5 b1c0_5 b1c1_5 b1c2_5 b2c0_5 b2c1_5 b2c2_5 b2c3_5 b3c0_5 b3c1_5 b3c2_5 b3c3_5 b4c0_5 b4c1_5 b4c2_5 b4c3_5
      go_wp2_with fail
      have HK : Hid (∀ wx, Below w6.heap.size w6 wx → (Below w6.heap.size w6 wx ∧ wx.cell? ⟨w.heap.size, 0, none⟩ = some (.int .i64 a) ∧ wx.cell? ⟨w.heap.size, 1, none⟩ = some (.int .i64 b) ∧ wx.cell? ⟨w.heap.size, 2, none⟩ = some (.slice A zs.length cp) ∧ wx.cell? ⟨w.heap.size, 3, none⟩ = some (.int .i64 d) ∧ wx.cell? ⟨w3.heap.size, 0, none⟩ = some (.int .i64 a) ∧ wx.cell? ⟨w3.heap.size, 1, none⟩ = some (.int .i64 b) ∧ wx.cell? ⟨w3.heap.size, 2, none⟩ = some (.slice (some ⟨g2, 0, none⟩) zs.length zs.length) ∧ wx.cell? ⟨w3.heap.size, 3, none⟩ = some (.int .i64 d))) := Lib.hid (fun wx h => ⟨h, (h.cell (p := ⟨w.heap.size, 0, none⟩) l0_6).trans b0c0_6, (h.cell (p := ⟨w.heap.size, 1, none⟩) l0_6).trans b0c1_6, (h.cell (p := ⟨w.heap.size, 2, none⟩) l0_6).trans b0c2_6, (h.cell (p := ⟨w.heap.size, 3, none⟩) l0_6).trans b0c3_6, (h.cell (p := ⟨w3.heap.size, 0, none⟩) l3_6).trans b3c0_6, (h.cell (p := ⟨w3.heap.size, 1, none⟩) l3_6).trans b3c1_6, (h.cell (p := ⟨w3.heap.size, 2, none⟩) l3_6).trans b3c2_6, (h.cell (p := ⟨w3.heap.size, 3, none⟩) l3_6).trans b3c3_6⟩)
      go_region_held3 (fun wx => Below w6.heap.size w6 wx ∧ wx.cell? ⟨w.heap.size, 0, none⟩ = some (.int .i64 a) ∧ wx.cell? ⟨w.heap.size, 1, none⟩ = some (.int .i64 b) ∧ wx.cell? ⟨w.heap.size, 2, none⟩ = some (.slice A zs.length cp) ∧ wx.cell? ⟨w.heap.size, 3, none⟩ = some (.int .i64 d) ∧ wx.cell? ⟨w3.heap.size, 0, none⟩ = some (.int .i64 a) ∧ wx.cell? ⟨w3.heap.size, 1, none⟩ = some (.int .i64 b) ∧ wx.cell? ⟨w3.heap.size, 2, none⟩ = some (.slice (some ⟨g2, 0, none⟩) zs.length zs.length) ∧ wx.cell? ⟨w3.heap.size, 3, none⟩ = some (.int .i64 d)) (first | exact HK.out _ (Below.refl _ _).drew | exact HK.out _ (below_step (And.left ‹_›) ‹_›)) (first | (go_at_call 46; refine (toSender_any _ _ _ _ _ _ zs _ rfl hm ((hrB0 _ hB6).below (And.left ‹_›))).mono ?_; rintro e w' ⟨g6, rfl, hown6, hb6⟩) | (go_at_call 47; refine (eqSender_same _ _ _ _ _ _ _ _ _ zs _ rfl rfl (by omega) ((Rd.of_own o1_6).below (And.left ‹_›)) (Rd.of_own (by assumption))).mono ?_; rintro e w' ⟨rfl, hb7⟩))
      all_goals
        rename_i hHeld
        obtain ⟨w7, rfl, hb7⟩ := name_below hHeld
        clear hHeld HK
        have hs7 : Below w6.heap.size w6 w7 := hb7
        have hB7 := below_step hB6 hs7
        have hz7 := hb7.size
        have l0_7 : w.heap.size < w7.heap.size := by omega
        have l1_7 : w.heap.size + 1 < w7.heap.size := by omega
        have l2_7 : Q2 < w7.heap.size := by omega
        have l3_7 : w3.heap.size < w7.heap.size := by omega
        have l4_7 : Q5 < w7.heap.size := by omega
        have b0c0_7 : w7.cell? ⟨w.heap.size, 0, none⟩ = some (.int .i64 a) := (hb7.cell (p := ⟨w.heap.size, 0, none⟩) l0_6).trans b0c0_6
        have b0c1_7 : w7.cell? ⟨w.heap.size, 1, none⟩ = some (.int .i64 b) := (hb7.cell (p := ⟨w.heap.size, 1, none⟩) l0_6).trans b0c1_6
        have b0c2_7 : w7.cell? ⟨w.heap.size, 2, none⟩ = some (.slice A zs.length cp) := (hb7.cell (p := ⟨w.heap.size, 2, none⟩) l0_6).trans b0c2_6
        have b0c3_7 : w7.cell? ⟨w.heap.size, 3, none⟩ = some (.int .i64 d) := (hb7.cell (p := ⟨w.heap.size, 3, none⟩) l0_6).trans b0c3_6
        have b1c0_7 : w7.cell? ⟨w.heap.size + 1, 0, none⟩ = some (.int .i64 ex) := (hb7.cell (p := ⟨w.heap.size + 1, 0, none⟩) l1_6).trans b1c0_6
        have b1c1_7 : w7.cell? ⟨w.heap.size + 1, 1, none⟩ = some (.bool lk) := (hb7.cell (p := ⟨w.heap.size + 1, 1, none⟩) l1_6).trans b1c1_6
        have b1c2_7 : w7.cell? ⟨w.heap.size + 1, 2, none⟩ = some (.bool ag) := (hb7.cell (p := ⟨w.heap.size + 1, 2, none⟩) l1_6).trans b1c2_6
        have b2c0_7 : w7.cell? ⟨Q2, 0, none⟩ = some (.int .i64 a) := (hb7.cell (p := ⟨Q2, 0, none⟩) l2_6).trans b2c0_6
        have b2c1_7 : w7.cell? ⟨Q2, 1, none⟩ = some (.int .i64 b) := (hb7.cell (p := ⟨Q2, 1, none⟩) l2_6).trans b2c1_6
        have b2c2_7 : w7.cell? ⟨Q2, 2, none⟩ = some (.slice A0 zs'.length c0) := (hb7.cell (p := ⟨Q2, 2, none⟩) l2_6).trans b2c2_6
        have b2c3_7 : w7.cell? ⟨Q2, 3, none⟩ = some (.int .i64 dn') := (hb7.cell (p := ⟨Q2, 3, none⟩) l2_6).trans b2c3_6
        have b3c0_7 : w7.cell? ⟨w3.heap.size, 0, none⟩ = some (.int .i64 a) := (hb7.cell (p := ⟨w3.heap.size, 0, none⟩) l3_6).trans b3c0_6
        have b3c1_7 : w7.cell? ⟨w3.heap.size, 1, none⟩ = some (.int .i64 b) := (hb7.cell (p := ⟨w3.heap.size, 1, none⟩) l3_6).trans b3c1_6
        have b3c2_7 : w7.cell? ⟨w3.heap.size, 2, none⟩ = some (.slice (some ⟨g2, 0, none⟩) zs.length zs.length) := (hb7.cell (p := ⟨w3.heap.size, 2, none⟩) l3_6).trans b3c2_6
        have b3c3_7 : w7.cell? ⟨w3.heap.size, 3, none⟩ = some (.int .i64 d) := (hb7.cell (p := ⟨w3.heap.size, 3, none⟩) l3_6).trans b3c3_6
        have b4c0_7 : w7.cell? ⟨Q5, 0, none⟩ = some (.int .i64 a) := (hb7.cell (p := ⟨Q5, 0, none⟩) l4_6).trans b4c0_6
        have b4c1_7 : w7.cell? ⟨Q5, 1, none⟩ = some (.int .i64 b) := (hb7.cell (p := ⟨Q5, 1, none⟩) l4_6).trans b4c1_6
        have b4c2_7 : w7.cell? ⟨Q5, 2, none⟩ = some (.slice A3 zs'.length c3) := (hb7.cell (p := ⟨Q5, 2, none⟩) l4_6).trans b4c2_6
        have b4c3_7 : w7.cell? ⟨Q5, 3, none⟩ = some (.int .i64 dn') := (hb7.cell (p := ⟨Q5, 3, none⟩) l4_6).trans b4c3_6
        have o0_7 := own_below o0_6 hs7
        have o1_7 := own_below o1_6 hs7
        have o2_7 := own_below o2_6 hs7
        clear b0c0_6 b0c1_6 b0c2_6 b0c3_6 b1c0_6 b1c1_6 b1c2_6 b2c0_6 b2c1_6 b2c2_6 b2c3_6 b3c0_6 b3c1_6 b3c2_6 b3c3_6 b4c0_6 b4c1_6 b4c2_6 b4c3_6
        go_wp2_with fail
        refine (markSender_any _ _ _ _ _ _ _ _ _ _ (by decide) (by decide) (by omega) (by omega) o1_7).mono ?_
        rintro e w8 ⟨rfl, om, hbm, hg⟩
        have hz8 := hg.size
        have hB8 := hB7.trans (hbm.mono (by omega))
        have l0_8 : w.heap.size < w8.heap.size := by omega
        have l1_8 : w.heap.size + 1 < w8.heap.size := by omega
        have l2_8 : Q2 < w8.heap.size := by omega
        have l3_8 : w3.heap.size < w8.heap.size := by omega
        have l4_8 : Q5 < w8.heap.size := by omega
        have b0c0_8 : w8.cell? ⟨w.heap.size, 0, none⟩ = some (.int .i64 a) := ((rcell hg).1 _ _ l0_7 (fun e => by have := hA1 _ e; omega)).trans b0c0_7
        have b0c1_8 : w8.cell? ⟨w.heap.size, 1, none⟩ = some (.int .i64 b) := ((rcell hg).1 _ _ l0_7 (fun e => by have := hA1 _ e; omega)).trans b0c1_7
        have b0c2_8 : w8.cell? ⟨w.heap.size, 2, none⟩ = some (.slice A zs.length cp) := ((rcell hg).1 _ _ l0_7 (fun e => by have := hA1 _ e; omega)).trans b0c2_7
        have b0c3_8 : w8.cell? ⟨w.heap.size, 3, none⟩ = some (.int .i64 d) := ((rcell hg).1 _ _ l0_7 (fun e => by have := hA1 _ e; omega)).trans b0c3_7
        have b1c0_8 : w8.cell? ⟨w.heap.size + 1, 0, none⟩ = some (.int .i64 ex) := ((rcell hg).1 _ _ l1_7 (fun e => by have := hA1 _ e; omega)).trans b1c0_7
        have b1c1_8 : w8.cell? ⟨w.heap.size + 1, 1, none⟩ = some (.bool lk) := ((rcell hg).1 _ _ l1_7 (fun e => by have := hA1 _ e; omega)).trans b1c1_7
        have b1c2_8 : w8.cell? ⟨w.heap.size + 1, 2, none⟩ = some (.bool ag) := ((rcell hg).1 _ _ l1_7 (fun e => by have := hA1 _ e; omega)).trans b1c2_7
        have b2c0_8 : w8.cell? ⟨Q2, 0, none⟩ = some (.int .i64 a) := ((rcell hg).1 _ _ l2_7 (fun e => by have := hA1 _ e; omega)).trans b2c0_7
        have b2c1_8 : w8.cell? ⟨Q2, 1, none⟩ = some (.int .i64 b) := ((rcell hg).1 _ _ l2_7 (fun e => by have := hA1 _ e; omega)).trans b2c1_7
        have b2c2_8 : w8.cell? ⟨Q2, 2, none⟩ = some (.slice A0 zs'.length c0) := ((rcell hg).1 _ _ l2_7 (fun e => by have := hA1 _ e; omega)).trans b2c2_7
        have b2c3_8 : w8.cell? ⟨Q2, 3, none⟩ = some (.int .i64 dn') := ((rcell hg).1 _ _ l2_7 (fun e => by have := hA1 _ e; omega)).trans b2c3_7
        have b3c0_8 : w8.cell? ⟨w3.heap.size, 0, none⟩ = some (.int .i64 a) := ((rcell hg).1 _ _ l3_7 (fun e => by have := hA1 _ e; omega)).trans b3c0_7
        have b3c1_8 : w8.cell? ⟨w3.heap.size, 1, none⟩ = some (.int .i64 b) := ((rcell hg).1 _ _ l3_7 (fun e => by have := hA1 _ e; omega)).trans b3c1_7
        have b3c2_8 : w8.cell? ⟨w3.heap.size, 2, none⟩ = some (.slice (some ⟨g2, 0, none⟩) zs.length zs.length) := ((rcell hg).1 _ _ l3_7 (fun e => by have := hA1 _ e; omega)).trans b3c2_7
        have b3c3_8 : w8.cell? ⟨w3.heap.size, 3, none⟩ = some (.int .i64 d) := ((rcell hg).1 _ _ l3_7 (fun e => by have := hA1 _ e; omega)).trans b3c3_7
        have b4c0_8 : w8.cell? ⟨Q5, 0, none⟩ = some (.int .i64 a) := ((rcell hg).1 _ _ l4_7 (fun e => by have := hA1 _ e; omega)).trans b4c0_7
        have b4c1_8 : w8.cell? ⟨Q5, 1, none⟩ = some (.int .i64 b) := ((rcell hg).1 _ _ l4_7 (fun e => by have := hA1 _ e; omega)).trans b4c1_7
        have b4c2_8 : w8.cell? ⟨Q5, 2, none⟩ = some (.slice A3 zs'.length c3) := ((rcell hg).1 _ _ l4_7 (fun e => by have := hA1 _ e; omega)).trans b4c2_7
        have b4c3_8 : w8.cell? ⟨Q5, 3, none⟩ = some (.int .i64 dn') := ((rcell hg).1 _ _ l4_7 (fun e => by have := hA1 _ e; omega)).trans b4c3_7
        have o0_8 := own_grown o0_7 hg (fun b h1 h2 => by have := hA1 b h2; have := hA0 b h1; omega)
        have o1_8 := om
        have o2_8 := own_grown o2_7 hg (fun b h1 h2 => by have := hA1 b h2; have := hA2 b h1; omega)
        clear b0c0_7 b0c1_7 b0c2_7 b0c3_7 b1c0_7 b1c1_7 b1c2_7 b2c0_7 b2c1_7 b2c2_7 b2c3_7 b3c0_7 b3c1_7 b3c2_7 b3c3_7 b4c0_7 b4c1_7 b4c2_7 b4c3_7
        clear om hbm hg
        go_wp2_with fail
        refine (eqSender_same _ _ _ _ _ _ _ _ _ zs' _ rfl rfl (by omega) (Rd.of_own o2_8) (Rd.of_own o0_8)).mono ?_
        rintro e w9 ⟨rfl, hb9⟩
        have hs9 : Below w8.heap.size w8 w9 := hb9
        have hB9 := below_step hB8 hs9
        have hz9 := hb9.size
        have l0_9 : w.heap.size < w9.heap.size := by omega
        have l1_9 : w.heap.size + 1 < w9.heap.size := by omega
        have l2_9 : Q2 < w9.heap.size := by omega
        have l3_9 : w3.heap.size < w9.heap.size := by omega
        have l4_9 : Q5 < w9.heap.size := by omega
        have b0c0_9 : w9.cell? ⟨w.heap.size, 0, none⟩ = some (.int .i64 a) := (hb9.cell (p := ⟨w.heap.size, 0, none⟩) l0_8).trans b0c0_8
        have b0c1_9 : w9.cell? ⟨w.heap.size, 1, none⟩ = some (.int .i64 b) := (hb9.cell (p := ⟨w.heap.size, 1, none⟩) l0_8).trans b0c1_8
        have b0c2_9 : w9.cell? ⟨w.heap.size, 2, none⟩ = some (.slice A zs.length cp) := (hb9.cell (p := ⟨w.heap.size, 2, none⟩) l0_8).trans b0c2_8
        have b0c3_9 : w9.cell? ⟨w.heap.size, 3, none⟩ = some (.int .i64 d) := (hb9.cell (p := ⟨w.heap.size, 3, none⟩) l0_8).trans b0c3_8
        have b1c0_9 : w9.cell? ⟨w.heap.size + 1, 0, none⟩ = some (.int .i64 ex) := (hb9.cell (p := ⟨w.heap.size + 1, 0, none⟩) l1_8).trans b1c0_8
        have b1c1_9 : w9.cell? ⟨w.heap.size + 1, 1, none⟩ = some (.bool lk) := (hb9.cell (p := ⟨w.heap.size + 1, 1, none⟩) l1_8).trans b1c1_8
        have b1c2_9 : w9.cell? ⟨w.heap.size + 1, 2, none⟩ = some (.bool ag) := (hb9.cell (p := ⟨w.heap.size + 1, 2, none⟩) l1_8).trans b1c2_8
        have b2c0_9 : w9.cell? ⟨Q2, 0, none⟩ = some (.int .i64 a) := (hb9.cell (p := ⟨Q2, 0, none⟩) l2_8).trans b2c0_8
        have b2c1_9 : w9.cell? ⟨Q2, 1, none⟩ = some (.int .i64 b) := (hb9.cell (p := ⟨Q2, 1, none⟩) l2_8).trans b2c1_8
        have b2c2_9 : w9.cell? ⟨Q2, 2, none⟩ = some (.slice A0 zs'.length c0) := (hb9.cell (p := ⟨Q2, 2, none⟩) l2_8).trans b2c2_8
        have b2c3_9 : w9.cell? ⟨Q2, 3, none⟩ = some (.int .i64 dn') := (hb9.cell (p := ⟨Q2, 3, none⟩) l2_8).trans b2c3_8
        have b3c0_9 : w9.cell? ⟨w3.heap.size, 0, none⟩ = some (.int .i64 a) := (hb9.cell (p := ⟨w3.heap.size, 0, none⟩) l3_8).trans b3c0_8
        have b3c1_9 : w9.cell? ⟨w3.heap.size, 1, none⟩ = some (.int .i64 b) := (hb9.cell (p := ⟨w3.heap.size, 1, none⟩) l3_8).trans b3c1_8
        have b3c2_9 : w9.cell? ⟨w3.heap.size, 2, none⟩ = some (.slice (some ⟨g2, 0, none⟩) zs.length zs.length) := (hb9.cell (p := ⟨w3.heap.size, 2, none⟩) l3_8).trans b3c2_8
        have b3c3_9 : w9.cell? ⟨w3.heap.size, 3, none⟩ = some (.int .i64 d) := (hb9.cell (p := ⟨w3.heap.size, 3, none⟩) l3_8).trans b3c3_8
        have b4c0_9 : w9.cell? ⟨Q5, 0, none⟩ = some (.int .i64 a) := (hb9.cell (p := ⟨Q5, 0, none⟩) l4_8).trans b4c0_8
        have b4c1_9 : w9.cell? ⟨Q5, 1, none⟩ = some (.int .i64 b) := (hb9.cell (p := ⟨Q5, 1, none⟩) l4_8).trans b4c1_8
        have b4c2_9 : w9.cell? ⟨Q5, 2, none⟩ = some (.slice A3 zs'.length c3) := (hb9.cell (p := ⟨Q5, 2, none⟩) l4_8).trans b4c2_8
        have b4c3_9 : w9.cell? ⟨Q5, 3, none⟩ = some (.int .i64 dn') := (hb9.cell (p := ⟨Q5, 3, none⟩) l4_8).trans b4c3_8
        have o0_9 := own_below o0_8 hs9
        have o1_9 := own_below o1_8 hs9
        have o2_9 := own_below o2_8 hs9
        clear b0c0_8 b0c1_8 b0c2_8 b0c3_8 b1c0_8 b1c1_8 b1c2_8 b2c0_8 b2c1_8 b2c2_8 b2c3_8 b3c0_8 b3c1_8 b3c2_8 b3c3_8 b4c0_8 b4c1_8 b4c2_8 b4c3_8
        go_wp2_with fail
        refine (markSender_any _ _ _ _ _ _ _ _ _ _ (by decide) (by decide) (by omega) (by omega) o2_9).mono ?_
        rintro e w10 ⟨rfl, om, hbm, hg⟩
        have hz10 := hg.size
        have hB10 := hB9.trans (hbm.mono (by omega))
        have l0_10 : w.heap.size < w10.heap.size := by omega
        have l1_10 : w.heap.size + 1 < w10.heap.size := by omega
        have l2_10 : Q2 < w10.heap.size := by omega
        have l3_10 : w3.heap.size < w10.heap.size := by omega
        have l4_10 : Q5 < w10.heap.size := by omega
        have b0c0_10 : w10.cell? ⟨w.heap.size, 0, none⟩ = some (.int .i64 a) := ((rcell hg).1 _ _ l0_9 (fun e => by have := hA2 _ e; omega)).trans b0c0_9
        have b0c1_10 : w10.cell? ⟨w.heap.size, 1, none⟩ = some (.int .i64 b) := ((rcell hg).1 _ _ l0_9 (fun e => by have := hA2 _ e; omega)).trans b0c1_9
        have b0c2_10 : w10.cell? ⟨w.heap.size, 2, none⟩ = some (.slice A zs.length cp) := ((rcell hg).1 _ _ l0_9 (fun e => by have := hA2 _ e; omega)).trans b0c2_9
        have b0c3_10 : w10.cell? ⟨w.heap.size, 3, none⟩ = some (.int .i64 d) := ((rcell hg).1 _ _ l0_9 (fun e => by have := hA2 _ e; omega)).trans b0c3_9
        have b1c0_10 : w10.cell? ⟨w.heap.size + 1, 0, none⟩ = some (.int .i64 ex) := ((rcell hg).1 _ _ l1_9 (fun e => by have := hA2 _ e; omega)).trans b1c0_9
        have b1c1_10 : w10.cell? ⟨w.heap.size + 1, 1, none⟩ = some (.bool lk) := ((rcell hg).1 _ _ l1_9 (fun e => by have := hA2 _ e; omega)).trans b1c1_9
        have b1c2_10 : w10.cell? ⟨w.heap.size + 1, 2, none⟩ = some (.bool ag) := ((rcell hg).1 _ _ l1_9 (fun e => by have := hA2 _ e; omega)).trans b1c2_9
        have b2c0_10 : w10.cell? ⟨Q2, 0, none⟩ = some (.int .i64 a) := ((rcell hg).1 _ _ l2_9 (fun e => by have := hA2 _ e; omega)).trans b2c0_9
        have b2c1_10 : w10.cell? ⟨Q2, 1, none⟩ = some (.int .i64 b) := ((rcell hg).1 _ _ l2_9 (fun e => by have := hA2 _ e; omega)).trans b2c1_9
        have b2c2_10 : w10.cell? ⟨Q2, 2, none⟩ = some (.slice A0 zs'.length c0) := ((rcell hg).1 _ _ l2_9 (fun e => by have := hA2 _ e; omega)).trans b2c2_9
        have b2c3_10 : w10.cell? ⟨Q2, 3, none⟩ = some (.int .i64 dn') := ((rcell hg).1 _ _ l2_9 (fun e => by have := hA2 _ e; omega)).trans b2c3_9
        have b3c0_10 : w10.cell? ⟨w3.heap.size, 0, none⟩ = some (.int .i64 a) := ((rcell hg).1 _ _ l3_9 (fun e => by have := hA2 _ e; omega)).trans b3c0_9
        have b3c1_10 : w10.cell? ⟨w3.heap.size, 1, none⟩ = some (.int .i64 b) := ((rcell hg).1 _ _ l3_9 (fun e => by have := hA2 _ e; omega)).trans b3c1_9
        have b3c2_10 : w10.cell? ⟨w3.heap.size, 2, none⟩ = some (.slice (some ⟨g2, 0, none⟩) zs.length zs.length) := ((rcell hg).1 _ _ l3_9 (fun e => by have := hA2 _ e; omega)).trans b3c2_9
        have b3c3_10 : w10.cell? ⟨w3.heap.size, 3, none⟩ = some (.int .i64 d) := ((rcell hg).1 _ _ l3_9 (fun e => by have := hA2 _ e; omega)).trans b3c3_9
        have b4c0_10 : w10.cell? ⟨Q5, 0, none⟩ = some (.int .i64 a) := ((rcell hg).1 _ _ l4_9 hN5).trans b4c0_9
        have b4c1_10 : w10.cell? ⟨Q5, 1, none⟩ = some (.int .i64 b) := ((rcell hg).1 _ _ l4_9 hN5).trans b4c1_9
        have b4c2_10 : w10.cell? ⟨Q5, 2, none⟩ = some (.slice A3 zs'.length c3) := ((rcell hg).1 _ _ l4_9 hN5).trans b4c2_9
        have b4c3_10 : w10.cell? ⟨Q5, 3, none⟩ = some (.int .i64 dn') := ((rcell hg).1 _ _ l4_9 hN5).trans b4c3_9
        have o0_10 := own_grown o0_9 hg (fun b h1 h2 => by have := hA2 b h2; have := hA0 b h1; omega)
        have o1_10 := own_grown o1_9 hg (fun b h1 h2 => by have := hA2 b h2; have := hA1 b h1; omega)
        have o2_10 := om
        clear b0c0_9 b0c1_9 b0c2_9 b0c3_9 b1c0_9 b1c1_9 b1c2_9 b2c0_9 b2c1_9 b2c2_9 b2c3_9 b3c0_9 b3c1_9 b3c2_9 b3c3_9 b4c0_9 b4c1_9 b4c2_9 b4c3_9
        clear om hbm hg
        go_wp2_with fail
        refine (heldSender_any _ _ _ _ _ _ _ _ (by decide) (by decide) (by omega) (Rd.of_own o2_10)).mono ?_
        rintro e w11 ⟨rfl, hb11⟩
        have hs11 : Below w10.heap.size w10 w11 := hb11
        have hB11 := below_step hB10 hs11
        have hz11 := hb11.size
        have l0_11 : w.heap.size < w11.heap.size := by omega
        have l1_11 : w.heap.size + 1 < w11.heap.size := by omega
        have l2_11 : Q2 < w11.heap.size := by omega
        have l3_11 : w3.heap.size < w11.heap.size := by omega
        have l4_11 : Q5 < w11.heap.size := by omega
        have b0c0_11 : w11.cell? ⟨w.heap.size, 0, none⟩ = some (.int .i64 a) := (hb11.cell (p := ⟨w.heap.size, 0, none⟩) l0_10).trans b0c0_10
        have b0c1_11 : w11.cell? ⟨w.heap.size, 1, none⟩ = some (.int .i64 b) := (hb11.cell (p := ⟨w.heap.size, 1, none⟩) l0_10).trans b0c1_10
        have b0c2_11 : w11.cell? ⟨w.heap.size, 2, none⟩ = some (.slice A zs.length cp) := (hb11.cell (p := ⟨w.heap.size, 2, none⟩) l0_10).trans b0c2_10
        have b0c3_11 : w11.cell? ⟨w.heap.size, 3, none⟩ = some (.int .i64 d) := (hb11.cell (p := ⟨w.heap.size, 3, none⟩) l0_10).trans b0c3_10
        have b1c0_11 : w11.cell? ⟨w.heap.size + 1, 0, none⟩ = some (.int .i64 ex) := (hb11.cell (p := ⟨w.heap.size + 1, 0, none⟩) l1_10).trans b1c0_10
        have b1c1_11 : w11.cell? ⟨w.heap.size + 1, 1, none⟩ = some (.bool lk) := (hb11.cell (p := ⟨w.heap.size + 1, 1, none⟩) l1_10).trans b1c1_10
        have b1c2_11 : w11.cell? ⟨w.heap.size + 1, 2, none⟩ = some (.bool ag) := (hb11.cell (p := ⟨w.heap.size + 1, 2, none⟩) l1_10).trans b1c2_10
        have b2c0_11 : w11.cell? ⟨Q2, 0, none⟩ = some (.int .i64 a) := (hb11.cell (p := ⟨Q2, 0, none⟩) l2_10).trans b2c0_10
        have b2c1_11 : w11.cell? ⟨Q2, 1, none⟩ = some (.int .i64 b) := (hb11.cell (p := ⟨Q2, 1, none⟩) l2_10).trans b2c1_10
        have b2c2_11 : w11.cell? ⟨Q2, 2, none⟩ = some (.slice A0 zs'.length c0) := (hb11.cell (p := ⟨Q2, 2, none⟩) l2_10).trans b2c2_10
        have b2c3_11 : w11.cell? ⟨Q2, 3, none⟩ = some (.int .i64 dn') := (hb11.cell (p := ⟨Q2, 3, none⟩) l2_10).trans b2c3_10
        have b3c0_11 : w11.cell? ⟨w3.heap.size, 0, none⟩ = some (.int .i64 a) := (hb11.cell (p := ⟨w3.heap.size, 0, none⟩) l3_10).trans b3c0_10
        have b3c1_11 : w11.cell? ⟨w3.heap.size, 1, none⟩ = some (.int .i64 b) := (hb11.cell (p := ⟨w3.heap.size, 1, none⟩) l3_10).trans b3c1_10
        have b3c2_11 : w11.cell? ⟨w3.heap.size, 2, none⟩ = some (.slice (some ⟨g2, 0, none⟩) zs.length zs.length) := (hb11.cell (p := ⟨w3.heap.size, 2, none⟩) l3_10).trans b3c2_10
        have b3c3_11 : w11.cell? ⟨w3.heap.size, 3, none⟩ = some (.int .i64 d) := (hb11.cell (p := ⟨w3.heap.size, 3, none⟩) l3_10).trans b3c3_10
        have b4c0_11 : w11.cell? ⟨Q5, 0, none⟩ = some (.int .i64 a) := (hb11.cell (p := ⟨Q5, 0, none⟩) l4_10).trans b4c0_10
        have b4c1_11 : w11.cell? ⟨Q5, 1, none⟩ = some (.int .i64 b) := (hb11.cell (p := ⟨Q5, 1, none⟩) l4_10).trans b4c1_10
        have b4c2_11 : w11.cell? ⟨Q5, 2, none⟩ = some (.slice A3 zs'.length c3) := (hb11.cell (p := ⟨Q5, 2, none⟩) l4_10).trans b4c2_10
        have b4c3_11 : w11.cell? ⟨Q5, 3, none⟩ = some (.int .i64 dn') := (hb11.cell (p := ⟨Q5, 3, none⟩) l4_10).trans b4c3_10
        have o0_11 := own_below o0_10 hs11
        have o1_11 := own_below o1_10 hs11
        have o2_11 := own_below o2_10 hs11
        clear b0c0_10 b0c1_10 b0c2_10 b0c3_10 b1c0_10 b1c1_10 b1c2_10 b2c0_10 b2c1_10 b2c2_10 b2c3_10 b3c0_10 b3c1_10 b3c2_10 b3c3_10 b4c0_10 b4c1_10 b4c2_10 b4c3_10
        go_upto_region 24 with fail
        go_cut [12] from 60 to 64 (fun p wx => ∃ (Q lo : Nat) (A8 : Option Addr) (c8 : Nat), p = .pointer (some ⟨Q, 0, none⟩) ∧ w11.heap.size ≤ Q ∧ Q < wx.heap.size ∧ w11.heap.size ≤ lo ∧ lo ≤ wx.heap.size ∧ wx.ownsRow lo 80 2 (.slice A8 zs'.length c8) zs'.length (zs'.flatMap cSent) ∧ (A8.map (·.block) ≠ some Q) ∧ Below w11.heap.size w11 wx ∧ wx.cell? ⟨Q, 0, none⟩ = some (.int .i64 a) ∧ wx.cell? ⟨Q, 1, none⟩ = some (.int .i64 b) ∧ wx.cell? ⟨Q, 2, none⟩ = some (.slice A8 zs'.length c8) ∧ wx.cell? ⟨Q, 3, none⟩ = some (.int .i64 dn'))
        case first =>
          have HK : Hid (∀ wx, Below w11.heap.size w11 wx → (Below w11.heap.size w11 wx ∧ wx.cell? ⟨w.heap.size, 0, none⟩ = some (.int .i64 a) ∧ wx.cell? ⟨w.heap.size, 1, none⟩ = some (.int .i64 b) ∧ wx.cell? ⟨w.heap.size, 2, none⟩ = some (.slice A zs.length cp) ∧ wx.cell? ⟨w.heap.size, 3, none⟩ = some (.int .i64 d) ∧ wx.cell? ⟨w.heap.size + 1, 0, none⟩ = some (.int .i64 ex) ∧ wx.cell? ⟨w.heap.size + 1, 1, none⟩ = some (.bool lk) ∧ wx.cell? ⟨w.heap.size + 1, 2, none⟩ = some (.bool ag))) := Lib.hid (fun wx h => ⟨h, (h.cell (p := ⟨w.heap.size, 0, none⟩) l0_11).trans b0c0_11, (h.cell (p := ⟨w.heap.size, 1, none⟩) l0_11).trans b0c1_11, (h.cell (p := ⟨w.heap.size, 2, none⟩) l0_11).trans b0c2_11, (h.cell (p := ⟨w.heap.size, 3, none⟩) l0_11).trans b0c3_11, (h.cell (p := ⟨w.heap.size + 1, 0, none⟩) l1_11).trans b1c0_11, (h.cell (p := ⟨w.heap.size + 1, 1, none⟩) l1_11).trans b1c1_11, (h.cell (p := ⟨w.heap.size + 1, 2, none⟩) l1_11).trans b1c2_11⟩)
          obtain ⟨hqD, d0_, d1_, d2_, d3_, d4_, d5_, d6_⟩ := HK.out _ (Below.refl _ _).drew
          have hlqD_0 : w.heap.size < w11.drew.heap.size := l0_11
          have hlqD_1 : w.heap.size + 1 < w11.drew.heap.size := l1_11
          go_region_law (first | (go_simp; go_at_call 46; refine (toSender_any _ _ _ _ _ _ zs _ rfl hm (by first | exact hrB0 _ (below_step hB11 hqD) | exact (hrB0 _ (below_step hB11 hqD)).alloc _)).mono ?_; rintro e v0 ⟨gA, rfl, ownA, hv0⟩; obtain ⟨hq0, d0_0, d0_1, d0_2, d0_3, d0_4, d0_5, d0_6⟩ := HK.out _ (by first | exact below_step hqD hv0 | exact below_step (below_al hqD _) hv0); obtain ⟨hcv0, hfv0⟩ := bcell hv0; have hzv0 := hv0.size; (try simp only [World.size_drew] at hzv0); (try simp only [World.size_alloc] at hzv0); (try simp only [World.size_drew] at hzv0); have hsv0 := hq0.size; (try have hlw0 : w11.heap.size < v0.heap.size := by omega); (try have hld0 : w11.drew.heap.size < v0.heap.size := by first | omega | (rw [World.size_drew]; omega)); (try have hlq0_0 : w.heap.size < v0.heap.size := by omega); (try have hlq1_0 : w.heap.size + 1 < v0.heap.size := by omega); (try have hzc0 : v0.cell? ⟨w11.heap.size, 0, none⟩ = some (.int .i64 0) := (hv0.cell (p := ⟨w11.heap.size, 0, none⟩) (by rw [World.size_alloc, World.size_drew]; omega)).trans (World.cell?_alloc_at _ _ _ _ rfl)); (try have hzc1 : v0.cell? ⟨w11.heap.size, 1, none⟩ = some (.int .i64 0) := (hv0.cell (p := ⟨w11.heap.size, 1, none⟩) (by rw [World.size_alloc, World.size_drew]; omega)).trans (World.cell?_alloc_at _ _ _ _ rfl)); (try have hzc2 : v0.cell? ⟨w11.heap.size, 2, none⟩ = some (.slice none 0 0) := (hv0.cell (p := ⟨w11.heap.size, 2, none⟩) (by rw [World.size_alloc, World.size_drew]; omega)).trans (World.cell?_alloc_at _ _ _ _ rfl)); (try have hzc3 : v0.cell? ⟨w11.heap.size, 3, none⟩ = some (.int .i64 0) := (hv0.cell (p := ⟨w11.heap.size, 3, none⟩) (by rw [World.size_alloc, World.size_drew]; omega)).trans (World.cell?_alloc_at _ _ _ _ rfl)); (try have hzf : ∀ j, v0.frozen? ⟨w11.heap.size, j, none⟩ = false := (fun j => (hv0.frozen (p := ⟨w11.heap.size, j, none⟩) (by rw [World.size_alloc, World.size_drew]; omega)).trans (by simp [go_sem])))) | (go_simp; go_at_call 38; refine (toNotice_any _ _ _ _).mono ?_; rintro e v1 ⟨rfl, hv1⟩; obtain ⟨hq1, d1_0, d1_1, d1_2, d1_3, d1_4, d1_5, d1_6⟩ := HK.out _ (by first | exact below_step hq0 hv1 | exact below_step (below_al hq0 _) hv1); obtain ⟨hcv1, hfv1⟩ := bcell hv1; have hzv1 := hv1.size; (try simp only [World.size_drew] at hzv1); (try simp only [World.size_alloc] at hzv1); (try simp only [World.size_drew] at hzv1); have hsv1 := hq1.size; (try have hlv0_1 : v0.heap.size < v1.heap.size := by omega); (try have hlw1 : w11.heap.size < v1.heap.size := by omega); (try have hld1 : w11.drew.heap.size < v1.heap.size := by first | omega | (rw [World.size_drew]; omega)); (try have hlq0_1 : w.heap.size < v1.heap.size := by omega); (try have hlq1_1 : w.heap.size + 1 < v1.heap.size := by omega)) | (go_simp; go_at_call 34; refine (hI _ _ _ (fun h => by cases h) (Nat.le_refl _) (by first | exact Rd.of_own (own_below ownA hv1) | exact (Rd.of_own (own_below ownA hv1)).alloc _ | exact Rd.of_own (own_below (ownA.alloc _) hv1))).mono ?_; rintro e v2 ⟨A8, c8, rfl, onew, hv2⟩; obtain ⟨hq2, d2_0, d2_1, d2_2, d2_3, d2_4, d2_5, d2_6⟩ := HK.out _ (by first | exact below_step hq1 hv2 | exact below_step (below_al hq1 _) hv2); obtain ⟨hcv2, hfv2⟩ := bcell hv2; have hzv2 := hv2.size; (try simp only [World.size_drew] at hzv2); (try simp only [World.size_alloc] at hzv2); (try simp only [World.size_drew] at hzv2); have hsv2 := hq2.size; (try have hlv0_2 : v0.heap.size < v2.heap.size := by omega); (try have hlv1_2 : v1.heap.size < v2.heap.size := by omega); (try have hlw2 : w11.heap.size < v2.heap.size := by omega); (try have hld2 : w11.drew.heap.size < v2.heap.size := by first | omega | (rw [World.size_drew]; omega)); (try have hlq0_2 : w.heap.size < v2.heap.size := by omega); (try have hlq1_2 : w.heap.size + 1 < v2.heap.size := by omega)))
          all_goals
            go_wp2_with fail
            go_meet
            have onew2 := own_base (base := v1.heap.size) onew (by first | exact Nat.le_refl _ | (rw [World.size_alloc]; omega))
            first
              | (with_reducible refine ⟨v2.heap.size, v1.heap.size, A8, c8, rfl, ?_⟩; exact ⟨hsv2, by simp, hsv1, by rw [World.size_alloc]; omega, onew2.alloc _, own_ne onew (Or.inr (Nat.le_refl _)), below_al hq2 _, by simp [go_sem], by simp [go_sem], by simp [go_sem], by simp [go_sem]⟩)
              | (with_reducible refine ⟨v1.heap.size, v1.heap.size, A8, c8, rfl, ?_⟩; have hne : A8.map (·.block) ≠ some v1.heap.size := own_ne onew (Or.inl (by first | omega | (rw [World.size_alloc]; omega))); have h4 := set4_cells (W := v2) (q := v1.heap.size) (a := .int .i64 a) (b := .int .i64 b) (c := .slice A8 zs'.length c8) (d := .int .i64 dn') (some_of (v := .int .i64 0) ((hcv2 _ _ (by rw [World.size_alloc]; omega)).trans (World.cell?_alloc_at _ _ _ _ rfl))) (some_of (v := .int .i64 0) ((hcv2 _ _ (by rw [World.size_alloc]; omega)).trans (World.cell?_alloc_at _ _ _ _ rfl))) (some_of (v := .slice none 0 0) ((hcv2 _ _ (by rw [World.size_alloc]; omega)).trans (World.cell?_alloc_at _ _ _ _ rfl))) (some_of (v := .int .i64 0) ((hcv2 _ _ (by rw [World.size_alloc]; omega)).trans (World.cell?_alloc_at _ _ _ _ rfl))); exact ⟨by omega, by simp only [World.size_setCell]; omega, hsv1, by simp only [World.size_setCell]; omega, own_setCell (own_setCell (own_setCell (own_setCell onew2 _ _ hne) _ _ hne) _ _ hne) _ _ hne, hne, (((hq2.setCell (show w11.heap.size ≤ v1.heap.size by omega) _).setCell (show w11.heap.size ≤ v1.heap.size by omega) _).setCell (show w11.heap.size ≤ v1.heap.size by omega) _).setCell (show w11.heap.size ≤ v1.heap.size by omega) _, h4⟩)
              | (with_reducible refine ⟨v0.heap.size, v1.heap.size, A8, c8, rfl, ?_⟩; have hne : A8.map (·.block) ≠ some v0.heap.size := own_ne onew (Or.inl (by first | omega | (rw [World.size_alloc]; omega))); have h4 := set4_cells (W := v2) (q := v0.heap.size) (a := .int .i64 a) (b := .int .i64 b) (c := .slice A8 zs'.length c8) (d := .int .i64 dn') (some_of (v := .int .i64 0) ((hcv2 _ _ (by omega)).trans ((hcv1 _ _ (by rw [World.size_alloc]; omega)).trans (World.cell?_alloc_at _ _ _ _ rfl)))) (some_of (v := .int .i64 0) ((hcv2 _ _ (by omega)).trans ((hcv1 _ _ (by rw [World.size_alloc]; omega)).trans (World.cell?_alloc_at _ _ _ _ rfl)))) (some_of (v := .slice none 0 0) ((hcv2 _ _ (by omega)).trans ((hcv1 _ _ (by rw [World.size_alloc]; omega)).trans (World.cell?_alloc_at _ _ _ _ rfl)))) (some_of (v := .int .i64 0) ((hcv2 _ _ (by omega)).trans ((hcv1 _ _ (by rw [World.size_alloc]; omega)).trans (World.cell?_alloc_at _ _ _ _ rfl)))); exact ⟨by omega, by simp only [World.size_setCell]; omega, hsv1, by simp only [World.size_setCell]; omega, own_setCell (own_setCell (own_setCell (own_setCell onew2 _ _ hne) _ _ hne) _ _ hne) _ _ hne, hne, (((hq2.setCell (show w11.heap.size ≤ v0.heap.size by omega) _).setCell (show w11.heap.size ≤ v0.heap.size by omega) _).setCell (show w11.heap.size ≤ v0.heap.size by omega) _).setCell (show w11.heap.size ≤ v0.heap.size by omega) _, h4⟩)
              | (with_reducible refine ⟨w11.heap.size, v1.heap.size, A8, c8, rfl, ?_⟩; have hne : A8.map (·.block) ≠ some w11.heap.size := own_ne onew (Or.inl (by first | omega | (rw [World.size_alloc]; omega))); have h4 := set4_cells (W := v2) (q := w11.heap.size) (a := .int .i64 a) (b := .int .i64 b) (c := .slice A8 zs'.length c8) (d := .int .i64 dn') (some_of (v := .int .i64 0) ((hcv2 _ _ (by omega)).trans ((hcv1 _ _ (by omega)).trans ((hcv0 _ _ (by rw [World.size_drew, World.size_alloc]; exact Nat.lt_succ_self _)).trans ((cell_drew _ _).trans (World.cell?_alloc_at _ _ _ _ rfl)))))) (some_of (v := .int .i64 0) ((hcv2 _ _ (by omega)).trans ((hcv1 _ _ (by omega)).trans ((hcv0 _ _ (by rw [World.size_drew, World.size_alloc]; exact Nat.lt_succ_self _)).trans ((cell_drew _ _).trans (World.cell?_alloc_at _ _ _ _ rfl)))))) (some_of (v := .slice none 0 0) ((hcv2 _ _ (by omega)).trans ((hcv1 _ _ (by omega)).trans ((hcv0 _ _ (by rw [World.size_drew, World.size_alloc]; exact Nat.lt_succ_self _)).trans ((cell_drew _ _).trans (World.cell?_alloc_at _ _ _ _ rfl)))))) (some_of (v := .int .i64 0) ((hcv2 _ _ (by omega)).trans ((hcv1 _ _ (by omega)).trans ((hcv0 _ _ (by rw [World.size_drew, World.size_alloc]; exact Nat.lt_succ_self _)).trans ((cell_drew _ _).trans (World.cell?_alloc_at _ _ _ _ rfl)))))); exact ⟨by omega, by simp only [World.size_setCell]; omega, hsv1, by simp only [World.size_setCell]; omega, own_setCell (own_setCell (own_setCell (own_setCell onew2 _ _ hne) _ _ hne) _ _ hne) _ _ hne, hne, (((hq2.setCell (show w11.heap.size ≤ w11.heap.size by omega) _).setCell (show w11.heap.size ≤ w11.heap.size by omega) _).setCell (show w11.heap.size ≤ w11.heap.size by omega) _).setCell (show w11.heap.size ≤ w11.heap.size by omega) _, h4⟩)
        case rest =>
          obtain ⟨w12, hwc⟩ : ∃ W, W = wc := ⟨wc, rfl⟩
          subst hwc
          obtain ⟨Q12, lo12, A8, c8, rfl, hQa12, hQb12, hlo12, hlu12, onew, hN12, hb12, hbc0, hbc1, hbc2, hbc3⟩ := hcut
          have hs12 : Below w11.heap.size w11 w12 := hb12
          have hB12 := below_step hB11 hs12
          have hz12 := hb12.size
          have l0_12 : w.heap.size < w12.heap.size := by omega
          have l1_12 : w.heap.size + 1 < w12.heap.size := by omega
          have l2_12 : Q2 < w12.heap.size := by omega
          have l3_12 : w3.heap.size < w12.heap.size := by omega
          have l4_12 : Q5 < w12.heap.size := by omega
          have b0c0_12 : w12.cell? ⟨w.heap.size, 0, none⟩ = some (.int .i64 a) := (hb12.cell (p := ⟨w.heap.size, 0, none⟩) l0_11).trans b0c0_11
          have b0c1_12 : w12.cell? ⟨w.heap.size, 1, none⟩ = some (.int .i64 b) := (hb12.cell (p := ⟨w.heap.size, 1, none⟩) l0_11).trans b0c1_11
          have b0c2_12 : w12.cell? ⟨w.heap.size, 2, none⟩ = some (.slice A zs.length cp) := (hb12.cell (p := ⟨w.heap.size, 2, none⟩) l0_11).trans b0c2_11
          have b0c3_12 : w12.cell? ⟨w.heap.size, 3, none⟩ = some (.int .i64 d) := (hb12.cell (p := ⟨w.heap.size, 3, none⟩) l0_11).trans b0c3_11
          have b1c0_12 : w12.cell? ⟨w.heap.size + 1, 0, none⟩ = some (.int .i64 ex) := (hb12.cell (p := ⟨w.heap.size + 1, 0, none⟩) l1_11).trans b1c0_11
          have b1c1_12 : w12.cell? ⟨w.heap.size + 1, 1, none⟩ = some (.bool lk) := (hb12.cell (p := ⟨w.heap.size + 1, 1, none⟩) l1_11).trans b1c1_11
          have b1c2_12 : w12.cell? ⟨w.heap.size + 1, 2, none⟩ = some (.bool ag) := (hb12.cell (p := ⟨w.heap.size + 1, 2, none⟩) l1_11).trans b1c2_11
          have b2c0_12 : w12.cell? ⟨Q2, 0, none⟩ = some (.int .i64 a) := (hb12.cell (p := ⟨Q2, 0, none⟩) l2_11).trans b2c0_11
          have b2c1_12 : w12.cell? ⟨Q2, 1, none⟩ = some (.int .i64 b) := (hb12.cell (p := ⟨Q2, 1, none⟩) l2_11).trans b2c1_11
          have b2c2_12 : w12.cell? ⟨Q2, 2, none⟩ = some (.slice A0 zs'.length c0) := (hb12.cell (p := ⟨Q2, 2, none⟩) l2_11).trans b2c2_11
          have b2c3_12 : w12.cell? ⟨Q2, 3, none⟩ = some (.int .i64 dn') := (hb12.cell (p := ⟨Q2, 3, none⟩) l2_11).trans b2c3_11
          have b3c0_12 : w12.cell? ⟨w3.heap.size, 0, none⟩ = some (.int .i64 a) := (hb12.cell (p := ⟨w3.heap.size, 0, none⟩) l3_11).trans b3c0_11
          have b3c1_12 : w12.cell? ⟨w3.heap.size, 1, none⟩ = some (.int .i64 b) := (hb12.cell (p := ⟨w3.heap.size, 1, none⟩) l3_11).trans b3c1_11
          have b3c2_12 : w12.cell? ⟨w3.heap.size, 2, none⟩ = some (.slice (some ⟨g2, 0, none⟩) zs.length zs.length) := (hb12.cell (p := ⟨w3.heap.size, 2, none⟩) l3_11).trans b3c2_11
          have b3c3_12 : w12.cell? ⟨w3.heap.size, 3, none⟩ = some (.int .i64 d) := (hb12.cell (p := ⟨w3.heap.size, 3, none⟩) l3_11).trans b3c3_11
          have b4c0_12 : w12.cell? ⟨Q5, 0, none⟩ = some (.int .i64 a) := (hb12.cell (p := ⟨Q5, 0, none⟩) l4_11).trans b4c0_11
          have b4c1_12 : w12.cell? ⟨Q5, 1, none⟩ = some (.int .i64 b) := (hb12.cell (p := ⟨Q5, 1, none⟩) l4_11).trans b4c1_11
          have b4c2_12 : w12.cell? ⟨Q5, 2, none⟩ = some (.slice A3 zs'.length c3) := (hb12.cell (p := ⟨Q5, 2, none⟩) l4_11).trans b4c2_11
          have b4c3_12 : w12.cell? ⟨Q5, 3, none⟩ = some (.int .i64 dn') := (hb12.cell (p := ⟨Q5, 3, none⟩) l4_11).trans b4c3_11
          have o0_12 := own_below o0_11 hs12
          have o1_12 := own_below o1_11 hs12
          have o2_12 := own_below o2_11 hs12
          clear b0c0_11 b0c1_11 b0c2_11 b0c3_11 b1c0_11 b1c1_11 b1c2_11 b2c0_11 b2c1_11 b2c2_11 b2c3_11 b3c0_11 b3c1_11 b3c2_11 b3c3_11 b4c0_11 b4c1_11 b4c2_11 b4c3_11
          have l5_12 := hQb12
          have b5c0_12 := hbc0
          have b5c1_12 := hbc1
          have b5c2_12 := hbc2
          have b5c3_12 := hbc3
          clear hbc0 hbc1 hbc2 hbc3
          have o3_12 := onew
          have hA3 := own_row onew
          clear onew
          go_wp2_with fail
          refine (eqSender_same _ _ _ _ _ _ _ _ _ zs' _ rfl rfl (by omega) (Rd.of_own o3_12) (Rd.of_own o0_12)).mono ?_
          rintro e w13 ⟨rfl, hb13⟩
          have hs13 : Below w12.heap.size w12 w13 := hb13
          have hB13 := below_step hB12 hs13
          have hz13 := hb13.size
          have l0_13 : w.heap.size < w13.heap.size := by omega
          have l1_13 : w.heap.size + 1 < w13.heap.size := by omega
          have l2_13 : Q2 < w13.heap.size := by omega
          have l3_13 : w3.heap.size < w13.heap.size := by omega
          have l4_13 : Q5 < w13.heap.size := by omega
          have l5_13 : Q12 < w13.heap.size := by omega
          have b0c0_13 : w13.cell? ⟨w.heap.size, 0, none⟩ = some (.int .i64 a) := (hb13.cell (p := ⟨w.heap.size, 0, none⟩) l0_12).trans b0c0_12
          have b0c1_13 : w13.cell? ⟨w.heap.size, 1, none⟩ = some (.int .i64 b) := (hb13.cell (p := ⟨w.heap.size, 1, none⟩) l0_12).trans b0c1_12
          have b0c2_13 : w13.cell? ⟨w.heap.size, 2, none⟩ = some (.slice A zs.length cp) := (hb13.cell (p := ⟨w.heap.size, 2, none⟩) l0_12).trans b0c2_12
          have b0c3_13 : w13.cell? ⟨w.heap.size, 3, none⟩ = some (.int .i64 d) := (hb13.cell (p := ⟨w.heap.size, 3, none⟩) l0_12).trans b0c3_12
          have b1c0_13 : w13.cell? ⟨w.heap.size + 1, 0, none⟩ = some (.int .i64 ex) := (hb13.cell (p := ⟨w.heap.size + 1, 0, none⟩) l1_12).trans b1c0_12
          have b1c1_13 : w13.cell? ⟨w.heap.size + 1, 1, none⟩ = some (.bool lk) := (hb13.cell (p := ⟨w.heap.size + 1, 1, none⟩) l1_12).trans b1c1_12
          have b1c2_13 : w13.cell? ⟨w.heap.size + 1, 2, none⟩ = some (.bool ag) := (hb13.cell (p := ⟨w.heap.size + 1, 2, none⟩) l1_12).trans b1c2_12
          have b2c0_13 : w13.cell? ⟨Q2, 0, none⟩ = some (.int .i64 a) := (hb13.cell (p := ⟨Q2, 0, none⟩) l2_12).trans b2c0_12
          have b2c1_13 : w13.cell? ⟨Q2, 1, none⟩ = some (.int .i64 b) := (hb13.cell (p := ⟨Q2, 1, none⟩) l2_12).trans b2c1_12
          have b2c2_13 : w13.cell? ⟨Q2, 2, none⟩ = some (.slice A0 zs'.length c0) := (hb13.cell (p := ⟨Q2, 2, none⟩) l2_12).trans b2c2_12
          have b2c3_13 : w13.cell? ⟨Q2, 3, none⟩ = some (.int .i64 dn') := (hb13.cell (p := ⟨Q2, 3, none⟩) l2_12).trans b2c3_12
          have b3c0_13 : w13.cell? ⟨w3.heap.size, 0, none⟩ = some (.int .i64 a) := (hb13.cell (p := ⟨w3.heap.size, 0, none⟩) l3_12).trans b3c0_12
          have b3c1_13 : w13.cell? ⟨w3.heap.size, 1, none⟩ = some (.int .i64 b) := (hb13.cell (p := ⟨w3.heap.size, 1, none⟩) l3_12).trans b3c1_12
          have b3c2_13 : w13.cell? ⟨w3.heap.size, 2, none⟩ = some (.slice (some ⟨g2, 0, none⟩) zs.length zs.length) := (hb13.cell (p := ⟨w3.heap.size, 2, none⟩) l3_12).trans b3c2_12
          have b3c3_13 : w13.cell? ⟨w3.heap.size, 3, none⟩ = some (.int .i64 d) := (hb13.cell (p := ⟨w3.heap.size, 3, none⟩) l3_12).trans b3c3_12
          have b4c0_13 : w13.cell? ⟨Q5, 0, none⟩ = some (.int .i64 a) := (hb13.cell (p := ⟨Q5, 0, none⟩) l4_12).trans b4c0_12
          have b4c1_13 : w13.cell? ⟨Q5, 1, none⟩ = some (.int .i64 b) := (hb13.cell (p := ⟨Q5, 1, none⟩) l4_12).trans b4c1_12
          have b4c2_13 : w13.cell? ⟨Q5, 2, none⟩ = some (.slice A3 zs'.length c3) := (hb13.cell (p := ⟨Q5, 2, none⟩) l4_12).trans b4c2_12
          have b4c3_13 : w13.cell? ⟨Q5, 3, none⟩ = some (.int .i64 dn') := (hb13.cell (p := ⟨Q5, 3, none⟩) l4_12).trans b4c3_12
          have b5c0_13 : w13.cell? ⟨Q12, 0, none⟩ = some (.int .i64 a) := (hb13.cell (p := ⟨Q12, 0, none⟩) l5_12).trans b5c0_12
          have b5c1_13 : w13.cell? ⟨Q12, 1, none⟩ = some (.int .i64 b) := (hb13.cell (p := ⟨Q12, 1, none⟩) l5_12).trans b5c1_12
          have b5c2_13 : w13.cell? ⟨Q12, 2, none⟩ = some (.slice A8 zs'.length c8) := (hb13.cell (p := ⟨Q12, 2, none⟩) l5_12).trans b5c2_12
          have b5c3_13 : w13.cell? ⟨Q12, 3, none⟩ = some (.int .i64 dn') := (hb13.cell (p := ⟨Q12, 3, none⟩) l5_12).trans b5c3_12
          have o0_13 := own_below o0_12 hs13
          have o1_13 := own_below o1_12 hs13
          have o2_13 := own_below o2_12 hs13
          have o3_13 := own_below o3_12 hs13
          clear b0c0_12 b0c1_12 b0c2_12 b0c3_12 b1c0_12 b1c1_12 b1c2_12 b2c0_12 b2c1_12 b2c2_12 b2c3_12 b3c0_12 b3c1_12 b3c2_12 b3c3_12 b4c0_12 b4c1_12 b4c2_12 b4c3_12 b5c0_12 b5c1_12 b5c2_12 b5c3_12
          go_wp2_with fail
          refine (heldSender_any _ _ _ _ _ _ _ _ (by decide) (by decide) (by omega) (Rd.of_own o2_13)).mono ?_
          rintro e w14 ⟨rfl, hb14⟩
          have hs14 : Below w13.heap.size w13 w14 := hb14
          have hB14 := below_step hB13 hs14
          have hz14 := hb14.size
          have l0_14 : w.heap.size < w14.heap.size := by omega
          have l1_14 : w.heap.size + 1 < w14.heap.size := by omega
          have l2_14 : Q2 < w14.heap.size := by omega
          have l3_14 : w3.heap.size < w14.heap.size := by omega
          have l4_14 : Q5 < w14.heap.size := by omega
          have l5_14 : Q12 < w14.heap.size := by omega
          have b0c0_14 : w14.cell? ⟨w.heap.size, 0, none⟩ = some (.int .i64 a) := (hb14.cell (p := ⟨w.heap.size, 0, none⟩) l0_13).trans b0c0_13
          have b0c1_14 : w14.cell? ⟨w.heap.size, 1, none⟩ = some (.int .i64 b) := (hb14.cell (p := ⟨w.heap.size, 1, none⟩) l0_13).trans b0c1_13
          have b0c2_14 : w14.cell? ⟨w.heap.size, 2, none⟩ = some (.slice A zs.length cp) := (hb14.cell (p := ⟨w.heap.size, 2, none⟩) l0_13).trans b0c2_13
          have b0c3_14 : w14.cell? ⟨w.heap.size, 3, none⟩ = some (.int .i64 d) := (hb14.cell (p := ⟨w.heap.size, 3, none⟩) l0_13).trans b0c3_13
          have b1c0_14 : w14.cell? ⟨w.heap.size + 1, 0, none⟩ = some (.int .i64 ex) := (hb14.cell (p := ⟨w.heap.size + 1, 0, none⟩) l1_13).trans b1c0_13
          have b1c1_14 : w14.cell? ⟨w.heap.size + 1, 1, none⟩ = some (.bool lk) := (hb14.cell (p := ⟨w.heap.size + 1, 1, none⟩) l1_13).trans b1c1_13
          have b1c2_14 : w14.cell? ⟨w.heap.size + 1, 2, none⟩ = some (.bool ag) := (hb14.cell (p := ⟨w.heap.size + 1, 2, none⟩) l1_13).trans b1c2_13
          have b2c0_14 : w14.cell? ⟨Q2, 0, none⟩ = some (.int .i64 a) := (hb14.cell (p := ⟨Q2, 0, none⟩) l2_13).trans b2c0_13
          have b2c1_14 : w14.cell? ⟨Q2, 1, none⟩ = some (.int .i64 b) := (hb14.cell (p := ⟨Q2, 1, none⟩) l2_13).trans b2c1_13
          have b2c2_14 : w14.cell? ⟨Q2, 2, none⟩ = some (.slice A0 zs'.length c0) := (hb14.cell (p := ⟨Q2, 2, none⟩) l2_13).trans b2c2_13
          have b2c3_14 : w14.cell? ⟨Q2, 3, none⟩ = some (.int .i64 dn') := (hb14.cell (p := ⟨Q2, 3, none⟩) l2_13).trans b2c3_13
          have b3c0_14 : w14.cell? ⟨w3.heap.size, 0, none⟩ = some (.int .i64 a) := (hb14.cell (p := ⟨w3.heap.size, 0, none⟩) l3_13).trans b3c0_13
          have b3c1_14 : w14.cell? ⟨w3.heap.size, 1, none⟩ = some (.int .i64 b) := (hb14.cell (p := ⟨w3.heap.size, 1, none⟩) l3_13).trans b3c1_13
          have b3c2_14 : w14.cell? ⟨w3.heap.size, 2, none⟩ = some (.slice (some ⟨g2, 0, none⟩) zs.length zs.length) := (hb14.cell (p := ⟨w3.heap.size, 2, none⟩) l3_13).trans b3c2_13
          have b3c3_14 : w14.cell? ⟨w3.heap.size, 3, none⟩ = some (.int .i64 d) := (hb14.cell (p := ⟨w3.heap.size, 3, none⟩) l3_13).trans b3c3_13
          have b4c0_14 : w14.cell? ⟨Q5, 0, none⟩ = some (.int .i64 a) := (hb14.cell (p := ⟨Q5, 0, none⟩) l4_13).trans b4c0_13
          have b4c1_14 : w14.cell? ⟨Q5, 1, none⟩ = some (.int .i64 b) := (hb14.cell (p := ⟨Q5, 1, none⟩) l4_13).trans b4c1_13
          have b4c2_14 : w14.cell? ⟨Q5, 2, none⟩ = some (.slice A3 zs'.length c3) := (hb14.cell (p := ⟨Q5, 2, none⟩) l4_13).trans b4c2_13
          have b4c3_14 : w14.cell? ⟨Q5, 3, none⟩ = some (.int .i64 dn') := (hb14.cell (p := ⟨Q5, 3, none⟩) l4_13).trans b4c3_13
          have b5c0_14 : w14.cell? ⟨Q12, 0, none⟩ = some (.int .i64 a) := (hb14.cell (p := ⟨Q12, 0, none⟩) l5_13).trans b5c0_13
          have b5c1_14 : w14.cell? ⟨Q12, 1, none⟩ = some (.int .i64 b) := (hb14.cell (p := ⟨Q12, 1, none⟩) l5_13).trans b5c1_13
          have b5c2_14 : w14.cell? ⟨Q12, 2, none⟩ = some (.slice A8 zs'.length c8) := (hb14.cell (p := ⟨Q12, 2, none⟩) l5_13).trans b5c2_13
          have b5c3_14 : w14.cell? ⟨Q12, 3, none⟩ = some (.int .i64 dn') := (hb14.cell (p := ⟨Q12, 3, none⟩) l5_13).trans b5c3_13
          have o0_14 := own_below o0_13 hs14
          have o1_14 := own_below o1_13 hs14
          have o2_14 := own_below o2_13 hs14
          have o3_14 := own_below o3_13 hs14
          clear b0c0_13 b0c1_13 b0c2_13 b0c3_13 b1c0_13 b1c1_13 b1c2_13 b2c0_13 b2c1_13 b2c2_13 b2c3_13 b3c0_13 b3c1_13 b3c2_13 b3c3_13 b4c0_13 b4c1_13 b4c2_13 b4c3_13 b5c0_13 b5c1_13 b5c2_13 b5c3_13
          go_wp2
          go_ret
          exact ⟨rfl, hB14⟩
end Go.Proofs.Ytpnejmlbfadaaaa
