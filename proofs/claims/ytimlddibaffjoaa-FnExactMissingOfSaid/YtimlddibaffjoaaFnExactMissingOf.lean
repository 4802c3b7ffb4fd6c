/- For every receiver of a file the program's MissingOf returns what the reference's returns, in memory of its own, and leaves its argument as it was. No condition. -/
import Derived.Test.YtimlddibaffjoaaMissOf
import Derived.Test.YtimlddibaffjoaaFileIn
import Derived.Test.YtimlddibaffjoaaFileInArg
import Derived.Test.YtimlddibaffjoaaInts
namespace Go.Proofs.Ytimlddibaffjoaa
open Go.RowKit

theorem fnExactMissingOf_walk {w : World} (a b c : Int) (A : Option Addr) (n cp : Nat) (zs : List (List UInt8)) (_ha : I64 a) (_hb : I64 b) (_hc : I64 c) (hn : zs.length = n) (_hnc : n ≤ cp) (hcm : cp ≤ maxLen) (hr : Rd w 1 A n (zs.flatMap cS)) (hwf : ∀ r ∈ zs, Txt r) :
    Calls Try.prog 17 #[.agg #[.int .i64 a, .int .i64 b, .int .i64 c, .slice A n cp]] w fun e w' => e = .returned (.bool true) ∧ Below w.heap.size w w' := by
  have hB0 : Below w.heap.size w w := Below.refl _ _
  have hrB0 := fun W' (hB : Below w.heap.size w W') => hr.below hB
  subst hn
  unfold maxLen at hcm
  go_enter Try.func17, Try.ntmps17
  go_wp2_with fail
  refine (szFileIn_any _ _ _ _ _ _ zs _ _ rfl (by omega) (by omega) (by omega) hwf ((hrB0 _ hB0).alloc _)).mono ?_
  rintro e w1 ⟨q, rfl, hq0, hq1, hq2, hb1⟩
  have hs1 : Below w.heap.size w w1 := ((Below.refl _ _).alloc (Nat.le_refl _) _).trans (hb1.mono (by simp))
  have hB1 := below_step hB0 hs1
  have hz1 := hb1.size
  simp only [World.size_alloc] at hz1
  have l0_1 : w.heap.size < w1.heap.size := by omega
  have b0c0_1 : w1.cell? ⟨w.heap.size, 0, none⟩ = some (.int .i64 a) := (hb1.cell (p := ⟨w.heap.size, 0, none⟩) (by simp)).trans (by simp [go_sem])
  have b0c1_1 : w1.cell? ⟨w.heap.size, 1, none⟩ = some (.int .i64 b) := (hb1.cell (p := ⟨w.heap.size, 1, none⟩) (by simp)).trans (by simp [go_sem])
  have b0c2_1 : w1.cell? ⟨w.heap.size, 2, none⟩ = some (.int .i64 c) := (hb1.cell (p := ⟨w.heap.size, 2, none⟩) (by simp)).trans (by simp [go_sem])
  have b0c3_1 : w1.cell? ⟨w.heap.size, 3, none⟩ = some (.slice A zs.length cp) := (hb1.cell (p := ⟨w.heap.size, 3, none⟩) (by simp)).trans (by simp [go_sem])
  by_cases hq : q < 0
  · go_wp2
    go_ret
    exact ⟨rfl, hB1⟩
  have hm : zs.length ≤ 1048576 := by have := hq2 (by omega); omega
  have hI := fun W A c' hr => missingOf_any a b c A _ c' zs W rfl hm hwf hr
  have hS := fun W A c' hr => sMissingOf_any a b c A _ c' zs W rfl hm hwf hr
  have hm2 := missL_le a b c zs
  generalize missL a b c zs = L at *
  go_wp2_with fail
  refine (toFileIn_any _ _ _ _ _ _ zs _ rfl hm (hrB0 _ hB1)).mono ?_
  rintro e w2 ⟨g2, rfl, onew, hb2⟩
  have hs2 : Below w1.heap.size w1 w2 := hb2
  have hB2 := below_step hB1 hs2
  have hz2 := hb2.size
  have l0_2 : w.heap.size < w2.heap.size := by omega
  have b0c0_2 : w2.cell? ⟨w.heap.size, 0, none⟩ = some (.int .i64 a) := (hb2.cell (p := ⟨w.heap.size, 0, none⟩) l0_1).trans b0c0_1
  have b0c1_2 : w2.cell? ⟨w.heap.size, 1, none⟩ = some (.int .i64 b) := (hb2.cell (p := ⟨w.heap.size, 1, none⟩) l0_1).trans b0c1_1
  have b0c2_2 : w2.cell? ⟨w.heap.size, 2, none⟩ = some (.int .i64 c) := (hb2.cell (p := ⟨w.heap.size, 2, none⟩) l0_1).trans b0c2_1
  have b0c3_2 : w2.cell? ⟨w.heap.size, 3, none⟩ = some (.slice A zs.length cp) := (hb2.cell (p := ⟨w.heap.size, 3, none⟩) l0_1).trans b0c3_1
  clear b0c0_1 b0c1_1 b0c2_1 b0c3_1
  have o0_2 := onew
  have hA0 := own_row onew
  clear onew
  go_wp2_with fail
  refine (hS _ _ _ (Rd.of_own o0_2)).mono ?_
  rintro e w3 ⟨A0, c0, rfl, onew, hb3⟩
  have hs3 : Below w2.heap.size w2 w3 := hb3
  have hB3 := below_step hB2 hs3
  have hz3 := hb3.size
  have l0_3 : w.heap.size < w3.heap.size := by omega
  have b0c0_3 : w3.cell? ⟨w.heap.size, 0, none⟩ = some (.int .i64 a) := (hb3.cell (p := ⟨w.heap.size, 0, none⟩) l0_2).trans b0c0_2
  have b0c1_3 : w3.cell? ⟨w.heap.size, 1, none⟩ = some (.int .i64 b) := (hb3.cell (p := ⟨w.heap.size, 1, none⟩) l0_2).trans b0c1_2
  have b0c2_3 : w3.cell? ⟨w.heap.size, 2, none⟩ = some (.int .i64 c) := (hb3.cell (p := ⟨w.heap.size, 2, none⟩) l0_2).trans b0c2_2
  have b0c3_3 : w3.cell? ⟨w.heap.size, 3, none⟩ = some (.slice A zs.length cp) := (hb3.cell (p := ⟨w.heap.size, 3, none⟩) l0_2).trans b0c3_2
  have o0_3 := own_below o0_2 hs3
  clear b0c0_2 b0c1_2 b0c2_2 b0c3_2
  have o1_3 := onew
  have hA1 := own_row onew
  clear onew
  go_wp2_with fail
  refine (toFileIn_any _ _ _ _ _ _ zs _ rfl hm (hrB0 _ hB3)).mono ?_
  rintro e w4 ⟨g4, rfl, onew, hb4⟩
  have hs4 : Below w3.heap.size w3 w4 := hb4
  have hB4 := below_step hB3 hs4
  have hz4 := hb4.size
  have l0_4 : w.heap.size < w4.heap.size := by omega
  have b0c0_4 : w4.cell? ⟨w.heap.size, 0, none⟩ = some (.int .i64 a) := (hb4.cell (p := ⟨w.heap.size, 0, none⟩) l0_3).trans b0c0_3
  have b0c1_4 : w4.cell? ⟨w.heap.size, 1, none⟩ = some (.int .i64 b) := (hb4.cell (p := ⟨w.heap.size, 1, none⟩) l0_3).trans b0c1_3
  have b0c2_4 : w4.cell? ⟨w.heap.size, 2, none⟩ = some (.int .i64 c) := (hb4.cell (p := ⟨w.heap.size, 2, none⟩) l0_3).trans b0c2_3
  have b0c3_4 : w4.cell? ⟨w.heap.size, 3, none⟩ = some (.slice A zs.length cp) := (hb4.cell (p := ⟨w.heap.size, 3, none⟩) l0_3).trans b0c3_3
  have o0_4 := own_below o0_3 hs4
  have o1_4 := own_below o1_3 hs4
  clear b0c0_3 b0c1_3 b0c2_3 b0c3_3
  have o2_4 := onew
  have hA2 := own_row onew
  clear onew
  go_wp2_with fail
  refine (hI _ _ _ ((Rd.of_own o2_4).alloc _)).mono ?_
  rintro e w5 ⟨A3, c3, rfl, onew, hb5⟩
  have hs5 : Below w4.heap.size w4 w5 := ((Below.refl _ _).alloc (Nat.le_refl _) _).trans (hb5.mono (by simp))
  have hB5 := below_step hB4 hs5
  have hz5 := hb5.size
  simp only [World.size_alloc] at hz5
  have l0_5 : w.heap.size < w5.heap.size := by omega
  have l1_5 : w4.heap.size < w5.heap.size := by omega
  have b0c0_5 : w5.cell? ⟨w.heap.size, 0, none⟩ = some (.int .i64 a) := (hb5.cell (p := ⟨w.heap.size, 0, none⟩) (by simp; omega)).trans (by simp [go_sem, b0c0_4, l0_4])
  have b0c1_5 : w5.cell? ⟨w.heap.size, 1, none⟩ = some (.int .i64 b) := (hb5.cell (p := ⟨w.heap.size, 1, none⟩) (by simp; omega)).trans (by simp [go_sem, b0c1_4, l0_4])
  have b0c2_5 : w5.cell? ⟨w.heap.size, 2, none⟩ = some (.int .i64 c) := (hb5.cell (p := ⟨w.heap.size, 2, none⟩) (by simp; omega)).trans (by simp [go_sem, b0c2_4, l0_4])
  have b0c3_5 : w5.cell? ⟨w.heap.size, 3, none⟩ = some (.slice A zs.length cp) := (hb5.cell (p := ⟨w.heap.size, 3, none⟩) (by simp; omega)).trans (by simp [go_sem, b0c3_4, l0_4])
  have b1c0_5 : w5.cell? ⟨w4.heap.size, 0, none⟩ = some (.int .i64 a) := (hb5.cell (p := ⟨w4.heap.size, 0, none⟩) (by simp)).trans (by simp [go_sem])
  have b1c1_5 : w5.cell? ⟨w4.heap.size, 1, none⟩ = some (.int .i64 b) := (hb5.cell (p := ⟨w4.heap.size, 1, none⟩) (by simp)).trans (by simp [go_sem])
  have b1c2_5 : w5.cell? ⟨w4.heap.size, 2, none⟩ = some (.int .i64 c) := (hb5.cell (p := ⟨w4.heap.size, 2, none⟩) (by simp)).trans (by simp [go_sem])
  have b1c3_5 : w5.cell? ⟨w4.heap.size, 3, none⟩ = some (.slice (some ⟨g4, 0, none⟩) zs.length zs.length) := (hb5.cell (p := ⟨w4.heap.size, 3, none⟩) (by simp)).trans (by simp [go_sem])
  have o0_5 := own_below o0_4 hs5
  have o1_5 := own_below o1_4 hs5
  have o2_5 := own_below o2_4 hs5
  clear b0c0_4 b0c1_4 b0c2_4 b0c3_4
  simp only [World.size_alloc] at onew
  have o3_5 := onew
  have hA3 := own_row onew
  clear onew
  go_wp2_with fail
  refine (eqIntS_one _ _ _ _ _ _ L _ rfl rfl (by omega) (Rd.of_own o3_5) (Rd.of_own o1_5)).mono ?_
  rintro e w6 ⟨rfl, hb6⟩
  have hs6 : Below w5.heap.size w5 w6 := hb6
  have hB6 := below_step hB5 hs6
  have hz6 := hb6.size
  have l0_6 : w.heap.size < w6.heap.size := by omega
  have l1_6 : w4.heap.size < w6.heap.size := by omega
  have b0c0_6 : w6.cell? ⟨w.heap.size, 0, none⟩ = some (.int .i64 a) := (hb6.cell (p := ⟨w.heap.size, 0, none⟩) l0_5).trans b0c0_5
  have b0c1_6 : w6.cell? ⟨w.heap.size, 1, none⟩ = some (.int .i64 b) := (hb6.cell (p := ⟨w.heap.size, 1, none⟩) l0_5).trans b0c1_5
  have b0c2_6 : w6.cell? ⟨w.heap.size, 2, none⟩ = some (.int .i64 c) := (hb6.cell (p := ⟨w.heap.size, 2, none⟩) l0_5).trans b0c2_5
  have b0c3_6 : w6.cell? ⟨w.heap.size, 3, none⟩ = some (.slice A zs.length cp) := (hb6.cell (p := ⟨w.heap.size, 3, none⟩) l0_5).trans b0c3_5
  have b1c0_6 : w6.cell? ⟨w4.heap.size, 0, none⟩ = some (.int .i64 a) := (hb6.cell (p := ⟨w4.heap.size, 0, none⟩) l1_5).trans b1c0_5
  have b1c1_6 : w6.cell? ⟨w4.heap.size, 1, none⟩ = some (.int .i64 b) := (hb6.cell (p := ⟨w4.heap.size, 1, none⟩) l1_5).trans b1c1_5
  have b1c2_6 : w6.cell? ⟨w4.heap.size, 2, none⟩ = some (.int .i64 c) := (hb6.cell (p := ⟨w4.heap.size, 2, none⟩) l1_5).trans b1c2_5
  have b1c3_6 : w6.cell? ⟨w4.heap.size, 3, none⟩ = some (.slice (some ⟨g4, 0, none⟩) zs.length zs.length) := (hb6.cell (p := ⟨w4.heap.size, 3, none⟩) l1_5).trans b1c3_5
  have o0_6 := own_below o0_5 hs6
  have o1_6 := own_below o1_5 hs6
  have o2_6 := own_below o2_5 hs6
  have o3_6 := own_below o3_5 hs6
  clear b0c0_5 b0c1_5 b0c2_5 b0c3_5 b1c0_5 b1c1_5 b1c2_5 b1c3_5
  go_wp2_with fail
  have HK : Hid (∀ wx, Below w6.heap.size w6 wx → (Below w6.heap.size w6 wx ∧ wx.cell? ⟨w.heap.size, 0, none⟩ = some (.int .i64 a) ∧ wx.cell? ⟨w.heap.size, 1, none⟩ = some (.int .i64 b) ∧ wx.cell? ⟨w.heap.size, 2, none⟩ = some (.int .i64 c) ∧ wx.cell? ⟨w.heap.size, 3, none⟩ = some (.slice A zs.length cp) ∧ wx.cell? ⟨w4.heap.size, 0, none⟩ = some (.int .i64 a) ∧ wx.cell? ⟨w4.heap.size, 1, none⟩ = some (.int .i64 b) ∧ wx.cell? ⟨w4.heap.size, 2, none⟩ = some (.int .i64 c) ∧ wx.cell? ⟨w4.heap.size, 3, none⟩ = some (.slice (some ⟨g4, 0, none⟩) zs.length zs.length))) := Lib.hid (fun wx h => ⟨h, (h.cell (p := ⟨w.heap.size, 0, none⟩) l0_6).trans b0c0_6, (h.cell (p := ⟨w.heap.size, 1, none⟩) l0_6).trans b0c1_6, (h.cell (p := ⟨w.heap.size, 2, none⟩) l0_6).trans b0c2_6, (h.cell (p := ⟨w.heap.size, 3, none⟩) l0_6).trans b0c3_6, (h.cell (p := ⟨w4.heap.size, 0, none⟩) l1_6).trans b1c0_6, (h.cell (p := ⟨w4.heap.size, 1, none⟩) l1_6).trans b1c1_6, (h.cell (p := ⟨w4.heap.size, 2, none⟩) l1_6).trans b1c2_6, (h.cell (p := ⟨w4.heap.size, 3, none⟩) l1_6).trans b1c3_6⟩)
  go_region_held3 (fun wx => Below w6.heap.size w6 wx ∧ wx.cell? ⟨w.heap.size, 0, none⟩ = some (.int .i64 a) ∧ wx.cell? ⟨w.heap.size, 1, none⟩ = some (.int .i64 b) ∧ wx.cell? ⟨w.heap.size, 2, none⟩ = some (.int .i64 c) ∧ wx.cell? ⟨w.heap.size, 3, none⟩ = some (.slice A zs.length cp) ∧ wx.cell? ⟨w4.heap.size, 0, none⟩ = some (.int .i64 a) ∧ wx.cell? ⟨w4.heap.size, 1, none⟩ = some (.int .i64 b) ∧ wx.cell? ⟨w4.heap.size, 2, none⟩ = some (.int .i64 c) ∧ wx.cell? ⟨w4.heap.size, 3, none⟩ = some (.slice (some ⟨g4, 0, none⟩) zs.length zs.length)) (first | exact HK.out _ (Below.refl _ _).drew | exact HK.out _ (below_step (And.left ‹_›) ‹_›)) (first | (go_at_call 45; refine (toFileIn_any _ _ _ _ _ _ zs _ rfl hm ((hrB0 _ hB6).below (And.left ‹_›))).mono ?_; rintro e w' ⟨g6, rfl, hown6, hb6⟩) | (go_at_call 32; refine (eqFileIn_same _ _ _ _ _ _ _ _ _ zs _ rfl rfl (by omega) ((Rd.of_own o2_6).below (And.left ‹_›)) (Rd.of_own (by assumption))).mono ?_; rintro e w' ⟨rfl, hb7⟩))
  all_goals
    rename_i hHeld
    obtain ⟨w7, rfl, hb7⟩ := name_below hHeld
    clear hHeld HK
    have hs7 : Below w6.heap.size w6 w7 := hb7
    have hB7 := below_step hB6 hs7
    have hz7 := hb7.size
    have l0_7 : w.heap.size < w7.heap.size := by omega
    have l1_7 : w4.heap.size < w7.heap.size := by omega
    have b0c0_7 : w7.cell? ⟨w.heap.size, 0, none⟩ = some (.int .i64 a) := (hb7.cell (p := ⟨w.heap.size, 0, none⟩) l0_6).trans b0c0_6
    have b0c1_7 : w7.cell? ⟨w.heap.size, 1, none⟩ = some (.int .i64 b) := (hb7.cell (p := ⟨w.heap.size, 1, none⟩) l0_6).trans b0c1_6
    have b0c2_7 : w7.cell? ⟨w.heap.size, 2, none⟩ = some (.int .i64 c) := (hb7.cell (p := ⟨w.heap.size, 2, none⟩) l0_6).trans b0c2_6
    have b0c3_7 : w7.cell? ⟨w.heap.size, 3, none⟩ = some (.slice A zs.length cp) := (hb7.cell (p := ⟨w.heap.size, 3, none⟩) l0_6).trans b0c3_6
    have b1c0_7 : w7.cell? ⟨w4.heap.size, 0, none⟩ = some (.int .i64 a) := (hb7.cell (p := ⟨w4.heap.size, 0, none⟩) l1_6).trans b1c0_6
    have b1c1_7 : w7.cell? ⟨w4.heap.size, 1, none⟩ = some (.int .i64 b) := (hb7.cell (p := ⟨w4.heap.size, 1, none⟩) l1_6).trans b1c1_6
    have b1c2_7 : w7.cell? ⟨w4.heap.size, 2, none⟩ = some (.int .i64 c) := (hb7.cell (p := ⟨w4.heap.size, 2, none⟩) l1_6).trans b1c2_6
    have b1c3_7 : w7.cell? ⟨w4.heap.size, 3, none⟩ = some (.slice (some ⟨g4, 0, none⟩) zs.length zs.length) := (hb7.cell (p := ⟨w4.heap.size, 3, none⟩) l1_6).trans b1c3_6
    have o0_7 := own_below o0_6 hs7
    have o1_7 := own_below o1_6 hs7
    have o2_7 := own_below o2_6 hs7
    have o3_7 := own_below o3_6 hs7
    clear b0c0_6 b0c1_6 b0c2_6 b0c3_6 b1c0_6 b1c1_6 b1c2_6 b1c3_6
    go_wp2_with fail
    refine (markFileIn_any _ _ _ _ _ _ _ _ _ _ (by decide) (by decide) (by omega) o2_7).mono ?_
    rintro e w8 ⟨rfl, om, hg⟩
    have hbm : Below w.heap.size w7 w8 := (Below.refl _ _).grown hg (by omega) (fun b hb => by have := hA2 b hb; omega)
    have hz8 := hg.size
    have hB8 := hB7.trans (hbm.mono (by omega))
    have l0_8 : w.heap.size < w8.heap.size := by omega
    have l1_8 : w4.heap.size < w8.heap.size := by omega
    have b0c0_8 : w8.cell? ⟨w.heap.size, 0, none⟩ = some (.int .i64 a) := ((rcell hg).1 _ _ l0_7 (fun e => by have := hA2 _ e; omega)).trans b0c0_7
    have b0c1_8 : w8.cell? ⟨w.heap.size, 1, none⟩ = some (.int .i64 b) := ((rcell hg).1 _ _ l0_7 (fun e => by have := hA2 _ e; omega)).trans b0c1_7
    have b0c2_8 : w8.cell? ⟨w.heap.size, 2, none⟩ = some (.int .i64 c) := ((rcell hg).1 _ _ l0_7 (fun e => by have := hA2 _ e; omega)).trans b0c2_7
    have b0c3_8 : w8.cell? ⟨w.heap.size, 3, none⟩ = some (.slice A zs.length cp) := ((rcell hg).1 _ _ l0_7 (fun e => by have := hA2 _ e; omega)).trans b0c3_7
    have b1c0_8 : w8.cell? ⟨w4.heap.size, 0, none⟩ = some (.int .i64 a) := ((rcell hg).1 _ _ l1_7 (fun e => by have := hA2 _ e; omega)).trans b1c0_7
    have b1c1_8 : w8.cell? ⟨w4.heap.size, 1, none⟩ = some (.int .i64 b) := ((rcell hg).1 _ _ l1_7 (fun e => by have := hA2 _ e; omega)).trans b1c1_7
    have b1c2_8 : w8.cell? ⟨w4.heap.size, 2, none⟩ = some (.int .i64 c) := ((rcell hg).1 _ _ l1_7 (fun e => by have := hA2 _ e; omega)).trans b1c2_7
    have b1c3_8 : w8.cell? ⟨w4.heap.size, 3, none⟩ = some (.slice (some ⟨g4, 0, none⟩) zs.length zs.length) := ((rcell hg).1 _ _ l1_7 (fun e => by have := hA2 _ e; omega)).trans b1c3_7
    have o0_8 := own_grown o0_7 hg (fun b h1 h2 => by have := hA2 b h2; have := hA0 b h1; omega)
    have o1_8 := own_grown o1_7 hg (fun b h1 h2 => by have := hA2 b h2; have := hA1 b h1; omega)
    have o2_8 := om
    have o3_8 := own_grown o3_7 hg (fun b h1 h2 => by have := hA2 b h2; have := hA3 b h1; omega)
    clear b0c0_7 b0c1_7 b0c2_7 b0c3_7 b1c0_7 b1c1_7 b1c2_7 b1c3_7
    clear om hbm hg
    go_wp2_with fail
    refine (eqIntS_one _ _ _ _ _ _ L _ rfl rfl (by omega) (Rd.of_own o3_8) (Rd.of_own o1_8)).mono ?_
    rintro e w9 ⟨rfl, hb9⟩
    have hs9 : Below w8.heap.size w8 w9 := hb9
    have hB9 := below_step hB8 hs9
    have hz9 := hb9.size
    have l0_9 : w.heap.size < w9.heap.size := by omega
    have l1_9 : w4.heap.size < w9.heap.size := by omega
    have b0c0_9 : w9.cell? ⟨w.heap.size, 0, none⟩ = some (.int .i64 a) := (hb9.cell (p := ⟨w.heap.size, 0, none⟩) l0_8).trans b0c0_8
    have b0c1_9 : w9.cell? ⟨w.heap.size, 1, none⟩ = some (.int .i64 b) := (hb9.cell (p := ⟨w.heap.size, 1, none⟩) l0_8).trans b0c1_8
    have b0c2_9 : w9.cell? ⟨w.heap.size, 2, none⟩ = some (.int .i64 c) := (hb9.cell (p := ⟨w.heap.size, 2, none⟩) l0_8).trans b0c2_8
    have b0c3_9 : w9.cell? ⟨w.heap.size, 3, none⟩ = some (.slice A zs.length cp) := (hb9.cell (p := ⟨w.heap.size, 3, none⟩) l0_8).trans b0c3_8
    have b1c0_9 : w9.cell? ⟨w4.heap.size, 0, none⟩ = some (.int .i64 a) := (hb9.cell (p := ⟨w4.heap.size, 0, none⟩) l1_8).trans b1c0_8
    have b1c1_9 : w9.cell? ⟨w4.heap.size, 1, none⟩ = some (.int .i64 b) := (hb9.cell (p := ⟨w4.heap.size, 1, none⟩) l1_8).trans b1c1_8
    have b1c2_9 : w9.cell? ⟨w4.heap.size, 2, none⟩ = some (.int .i64 c) := (hb9.cell (p := ⟨w4.heap.size, 2, none⟩) l1_8).trans b1c2_8
    have b1c3_9 : w9.cell? ⟨w4.heap.size, 3, none⟩ = some (.slice (some ⟨g4, 0, none⟩) zs.length zs.length) := (hb9.cell (p := ⟨w4.heap.size, 3, none⟩) l1_8).trans b1c3_8
    have o0_9 := own_below o0_8 hs9
    have o1_9 := own_below o1_8 hs9
    have o2_9 := own_below o2_8 hs9
    have o3_9 := own_below o3_8 hs9
    clear b0c0_8 b0c1_8 b0c2_8 b0c3_8 b1c0_8 b1c1_8 b1c2_8 b1c3_8
    go_wp2_with fail
    refine (markIntS_any _ _ _ _ _ _ _ (by decide) (by decide) (by omega) o3_9).mono ?_
    rintro e w10 ⟨rfl, om, hg⟩
    have hbm : Below w.heap.size w9 w10 := (Below.refl _ _).grown hg (by omega) (fun b hb => by have := hA3 b hb; omega)
    have hz10 := hg.size
    have hB10 := hB9.trans (hbm.mono (by omega))
    have l0_10 : w.heap.size < w10.heap.size := by omega
    have l1_10 : w4.heap.size < w10.heap.size := by omega
    have b0c0_10 : w10.cell? ⟨w.heap.size, 0, none⟩ = some (.int .i64 a) := ((rcell hg).1 _ _ l0_9 (fun e => by have := hA3 _ e; omega)).trans b0c0_9
    have b0c1_10 : w10.cell? ⟨w.heap.size, 1, none⟩ = some (.int .i64 b) := ((rcell hg).1 _ _ l0_9 (fun e => by have := hA3 _ e; omega)).trans b0c1_9
    have b0c2_10 : w10.cell? ⟨w.heap.size, 2, none⟩ = some (.int .i64 c) := ((rcell hg).1 _ _ l0_9 (fun e => by have := hA3 _ e; omega)).trans b0c2_9
    have b0c3_10 : w10.cell? ⟨w.heap.size, 3, none⟩ = some (.slice A zs.length cp) := ((rcell hg).1 _ _ l0_9 (fun e => by have := hA3 _ e; omega)).trans b0c3_9
    have b1c0_10 : w10.cell? ⟨w4.heap.size, 0, none⟩ = some (.int .i64 a) := ((rcell hg).1 _ _ l1_9 (fun e => by have := hA3 _ e; omega)).trans b1c0_9
    have b1c1_10 : w10.cell? ⟨w4.heap.size, 1, none⟩ = some (.int .i64 b) := ((rcell hg).1 _ _ l1_9 (fun e => by have := hA3 _ e; omega)).trans b1c1_9
    have b1c2_10 : w10.cell? ⟨w4.heap.size, 2, none⟩ = some (.int .i64 c) := ((rcell hg).1 _ _ l1_9 (fun e => by have := hA3 _ e; omega)).trans b1c2_9
    have b1c3_10 : w10.cell? ⟨w4.heap.size, 3, none⟩ = some (.slice (some ⟨g4, 0, none⟩) zs.length zs.length) := ((rcell hg).1 _ _ l1_9 (fun e => by have := hA3 _ e; omega)).trans b1c3_9
    have o0_10 := own_grown o0_9 hg (fun b h1 h2 => by have := hA3 b h2; have := hA0 b h1; omega)
    have o1_10 := own_grown o1_9 hg (fun b h1 h2 => by have := hA3 b h2; have := hA1 b h1; omega)
    have o2_10 := own_grown o2_9 hg (fun b h1 h2 => by have := hA3 b h2; have := hA2 b h1; omega)
    have o3_10 := om
    clear b0c0_9 b0c1_9 b0c2_9 b0c3_9 b1c0_9 b1c1_9 b1c2_9 b1c3_9
    clear om hbm hg
    go_wp2_with fail
    refine (heldIntS_any _ _ _ _ _ (by decide) (by decide) (by omega) (Rd.of_own o3_10)).mono ?_
    rintro e w' ⟨rfl, rfl⟩
    go_wp2_with fail
    refine (toFileIn_any _ _ _ _ _ _ zs _ rfl hm (hrB0 _ hB10)).mono ?_
    rintro e w11 ⟨g11, rfl, onew, hb11⟩
    have hs11 : Below w10.heap.size w10 w11 := hb11
    have hB11 := below_step hB10 hs11
    have hz11 := hb11.size
    have l0_11 : w.heap.size < w11.heap.size := by omega
    have l1_11 : w4.heap.size < w11.heap.size := by omega
    have b0c0_11 : w11.cell? ⟨w.heap.size, 0, none⟩ = some (.int .i64 a) := (hb11.cell (p := ⟨w.heap.size, 0, none⟩) l0_10).trans b0c0_10
    have b0c1_11 : w11.cell? ⟨w.heap.size, 1, none⟩ = some (.int .i64 b) := (hb11.cell (p := ⟨w.heap.size, 1, none⟩) l0_10).trans b0c1_10
    have b0c2_11 : w11.cell? ⟨w.heap.size, 2, none⟩ = some (.int .i64 c) := (hb11.cell (p := ⟨w.heap.size, 2, none⟩) l0_10).trans b0c2_10
    have b0c3_11 : w11.cell? ⟨w.heap.size, 3, none⟩ = some (.slice A zs.length cp) := (hb11.cell (p := ⟨w.heap.size, 3, none⟩) l0_10).trans b0c3_10
    have b1c0_11 : w11.cell? ⟨w4.heap.size, 0, none⟩ = some (.int .i64 a) := (hb11.cell (p := ⟨w4.heap.size, 0, none⟩) l1_10).trans b1c0_10
    have b1c1_11 : w11.cell? ⟨w4.heap.size, 1, none⟩ = some (.int .i64 b) := (hb11.cell (p := ⟨w4.heap.size, 1, none⟩) l1_10).trans b1c1_10
    have b1c2_11 : w11.cell? ⟨w4.heap.size, 2, none⟩ = some (.int .i64 c) := (hb11.cell (p := ⟨w4.heap.size, 2, none⟩) l1_10).trans b1c2_10
    have b1c3_11 : w11.cell? ⟨w4.heap.size, 3, none⟩ = some (.slice (some ⟨g4, 0, none⟩) zs.length zs.length) := (hb11.cell (p := ⟨w4.heap.size, 3, none⟩) l1_10).trans b1c3_10
    have o0_11 := own_below o0_10 hs11
    have o1_11 := own_below o1_10 hs11
    have o2_11 := own_below o2_10 hs11
    have o3_11 := own_below o3_10 hs11
    clear b0c0_10 b0c1_10 b0c2_10 b0c3_10 b1c0_10 b1c1_10 b1c2_10 b1c3_10
    have o4_11 := onew
    have hA4 := own_row onew
    clear onew
    go_wp2_with fail
    refine (hI _ _ _ (Rd.of_own o4_11)).mono ?_
    rintro e w12 ⟨A8, c8, rfl, onew, hb12⟩
    have hs12 : Below w11.heap.size w11 w12 := hb12
    have hB12 := below_step hB11 hs12
    have hz12 := hb12.size
    have l0_12 : w.heap.size < w12.heap.size := by omega
    have l1_12 : w4.heap.size < w12.heap.size := by omega
    have b0c0_12 : w12.cell? ⟨w.heap.size, 0, none⟩ = some (.int .i64 a) := (hb12.cell (p := ⟨w.heap.size, 0, none⟩) l0_11).trans b0c0_11
    have b0c1_12 : w12.cell? ⟨w.heap.size, 1, none⟩ = some (.int .i64 b) := (hb12.cell (p := ⟨w.heap.size, 1, none⟩) l0_11).trans b0c1_11
    have b0c2_12 : w12.cell? ⟨w.heap.size, 2, none⟩ = some (.int .i64 c) := (hb12.cell (p := ⟨w.heap.size, 2, none⟩) l0_11).trans b0c2_11
    have b0c3_12 : w12.cell? ⟨w.heap.size, 3, none⟩ = some (.slice A zs.length cp) := (hb12.cell (p := ⟨w.heap.size, 3, none⟩) l0_11).trans b0c3_11
    have b1c0_12 : w12.cell? ⟨w4.heap.size, 0, none⟩ = some (.int .i64 a) := (hb12.cell (p := ⟨w4.heap.size, 0, none⟩) l1_11).trans b1c0_11
    have b1c1_12 : w12.cell? ⟨w4.heap.size, 1, none⟩ = some (.int .i64 b) := (hb12.cell (p := ⟨w4.heap.size, 1, none⟩) l1_11).trans b1c1_11
    have b1c2_12 : w12.cell? ⟨w4.heap.size, 2, none⟩ = some (.int .i64 c) := (hb12.cell (p := ⟨w4.heap.size, 2, none⟩) l1_11).trans b1c2_11
    have b1c3_12 : w12.cell? ⟨w4.heap.size, 3, none⟩ = some (.slice (some ⟨g4, 0, none⟩) zs.length zs.length) := (hb12.cell (p := ⟨w4.heap.size, 3, none⟩) l1_11).trans b1c3_11
    have o0_12 := own_below o0_11 hs12
    have o1_12 := own_below o1_11 hs12
    have o2_12 := own_below o2_11 hs12
    have o3_12 := own_below o3_11 hs12
    have o4_12 := own_below o4_11 hs12
    clear b0c0_11 b0c1_11 b0c2_11 b0c3_11 b1c0_11 b1c1_11 b1c2_11 b1c3_11
    have o5_12 := onew
    have hA5 := own_row onew
    clear onew
    go_wp2_with fail
    refine (eqIntS_one _ _ _ _ _ _ L _ rfl rfl (by omega) (Rd.of_own o5_12) (Rd.of_own o1_12)).mono ?_
    rintro e w13 ⟨rfl, hb13⟩
    have hs13 : Below w12.heap.size w12 w13 := hb13
    have hB13 := below_step hB12 hs13
    have hz13 := hb13.size
    have l0_13 : w.heap.size < w13.heap.size := by omega
    have l1_13 : w4.heap.size < w13.heap.size := by omega
    have b0c0_13 : w13.cell? ⟨w.heap.size, 0, none⟩ = some (.int .i64 a) := (hb13.cell (p := ⟨w.heap.size, 0, none⟩) l0_12).trans b0c0_12
    have b0c1_13 : w13.cell? ⟨w.heap.size, 1, none⟩ = some (.int .i64 b) := (hb13.cell (p := ⟨w.heap.size, 1, none⟩) l0_12).trans b0c1_12
    have b0c2_13 : w13.cell? ⟨w.heap.size, 2, none⟩ = some (.int .i64 c) := (hb13.cell (p := ⟨w.heap.size, 2, none⟩) l0_12).trans b0c2_12
    have b0c3_13 : w13.cell? ⟨w.heap.size, 3, none⟩ = some (.slice A zs.length cp) := (hb13.cell (p := ⟨w.heap.size, 3, none⟩) l0_12).trans b0c3_12
    have b1c0_13 : w13.cell? ⟨w4.heap.size, 0, none⟩ = some (.int .i64 a) := (hb13.cell (p := ⟨w4.heap.size, 0, none⟩) l1_12).trans b1c0_12
    have b1c1_13 : w13.cell? ⟨w4.heap.size, 1, none⟩ = some (.int .i64 b) := (hb13.cell (p := ⟨w4.heap.size, 1, none⟩) l1_12).trans b1c1_12
    have b1c2_13 : w13.cell? ⟨w4.heap.size, 2, none⟩ = some (.int .i64 c) := (hb13.cell (p := ⟨w4.heap.size, 2, none⟩) l1_12).trans b1c2_12
    have b1c3_13 : w13.cell? ⟨w4.heap.size, 3, none⟩ = some (.slice (some ⟨g4, 0, none⟩) zs.length zs.length) := (hb13.cell (p := ⟨w4.heap.size, 3, none⟩) l1_12).trans b1c3_12
    have o0_13 := own_below o0_12 hs13
    have o1_13 := own_below o1_12 hs13
    have o2_13 := own_below o2_12 hs13
    have o3_13 := own_below o3_12 hs13
    have o4_13 := own_below o4_12 hs13
    have o5_13 := own_below o5_12 hs13
    clear b0c0_12 b0c1_12 b0c2_12 b0c3_12 b1c0_12 b1c1_12 b1c2_12 b1c3_12
    go_wp2_with fail
    refine (heldIntS_any _ _ _ _ _ (by decide) (by decide) (by omega) (Rd.of_own o3_13)).mono ?_
    rintro e w' ⟨rfl, rfl⟩
    go_wp2
    go_ret
    exact ⟨rfl, hB13⟩

/-! ### The row's step, written by a program of ours (frame.py) -/
namespace fnExactMissingOfDone
open Go.ChangeShapes Go.WideShapes Go.ChangeAt
open Go.ChangeMaps (open_string)
theorem own : ownKnob Try.prog.godebug = none := by kernel_rfl
theorem laidOut : laidOutB Try.prog = true := by kernel_rfl
set_option maxRecDepth 100000 in
theorem lifted (os : Os) (started : os.Started) (H : Type) (enc : TypeId × Value → H) :
    ReturnsInHanded {} Try.checked os 17 .any (Rows.fnExactMissingOfSpec.pre6 enc Try.prog Try.f17 Rows.fnExactMissingOfRow.domain false) (Rows.fnExactMissingOfSpec.post enc Try.prog Try.f17 false true false false) := by
  refine returnsInHanded_of_change (C := Try.checked) own started (by kernel_rfl) Try.func17
    (ChangeSpec.witness6 (enc := enc) (C := Try.checked) false ⟨#[], #[.agg #[.int .i64 0, .int .i64 0, .int .i64 0, .slice none 0 0]], []⟩ 8 (by kernel_rfl) (by kernel_rfl) (by kernel_rfl) (by kernel_rfl)) ?_
  intro W base args ds gs before hval0 hW hcnd _
  have hval : ∀ (j : Nat) t v, Try.f17.params[j]? = some t → args[j]? = some v → Value.okWide Try.prog W .any base t v := hval0
  have hW' := hW
  obtain ⟨p, q, hA0, hV, rfl, hfz, hnd⟩ := hW
  have hA : DataW.TrodAll enc Try.prog W 0 (fun _ => true) true Try.f17.params.toList args.toList ds p := hA0
  rw [Try.params17] at hA hval
  obtain ⟨v0, vs0, d0, ds0, p0, q0, hargs, rfl, rfl, h0, r0⟩ := trodAll_cons hA
  obtain ⟨rfl, rfl, rfl⟩ := trodAll_nil r0
  obtain rfl : args = #[v0] := by cases args; simp_all
  obtain ⟨rfl, rfl⟩ := trodVars_none hV
  have k0 := h0
  have lt0 : ∀ x ∈ p0, x.block < W.heap.size := by obtain ⟨m, hm⟩ := k0; exact DataW.trod_lt m _ _ _ hm
  obtain ⟨cs0, rfl, _⟩ := okWide_struct Try.underlying49 (hval 0 49 v0 rfl rfl)
  obtain ⟨fuel0, hf0⟩ := h0
  obtain ⟨x0a, x0b, x0c, A0, n0, c0, rs0, hcs0, hxa0, hxb0, hxc0, hlen0, hnc0, hcm0, hrd0, hwf0⟩ := open_FileIn hf0
  obtain ⟨cs0⟩ := cs0
  simp only [Value.cells] at hcs0
  subst hcs0
  clear hA0 hval0
  refine (fnExactMissingOf_walk (w := W) x0a x0b x0c A0 n0 c0 rs0 hxa0 hxb0 hxc0 hlen0 hnc0 hcm0 hrd0 hwf0).mono fun e W' ⟨he, bel⟩ => ?_
  subst he
  exact ⟨_, rfl, _, _, _, [], _, [], hW', trodAll_mk1 (shut_bool Try.underlying4 _), (trodAll_cons_mk (Below.trod laidOut (by kernel_rfl) (of_decide_eq_true (by kernel_rfl)) k0 bel lt0) trodAll_mk0), rfl, bel.frame _, fun h => by cases h⟩
theorem proved : Rows.FnExactMissingOfSaid :=
  OpenClaim.holds_of_wide 17 Try.f17 rfl rfl rfl rfl rfl rfl rfl ⟨rfl, rfl, rfl, rfl, rfl⟩ rfl rfl rfl rfl rfl (by kernel_rfl) Try.func17 (by kernel_rfl)
    (of_decide_eq_true (by kernel_rfl)) (by unfold Func.isWrapper; first | (rw [if_pos (by decide +kernel)]; kernel_rfl) | (rw [if_neg (by decide +kernel)]; exact ⟨rfl, rfl⟩))
    (fun os started H enc _ => lifted os started H enc)
end fnExactMissingOfDone
end Go.Proofs.Ytimlddibaffjoaa
