/- For every number and every text the program's NewFileOut returns what the reference's returns, in memory of its own. No condition. -/
import Derived.Test.YtimlddibaffjoaaNewFileOut
import Derived.Test.YtimlddibaffjoaaFoMark
namespace Go.Proofs.Ytimlddibaffjoaa
open Go.RowKit

theorem fnExactNewFileOut_walk {w : World} (f : Int) (_hf : I64 f) (d : List UInt8) (hd : Txt d) :
    Calls Try.prog 14 #[.int .i64 f, .string ⟨d.toArray⟩] w fun e w' => e = .returned (.bool true) ∧ Below w.heap.size w w' := by
  have hB0 : Below w.heap.size w w := Below.refl _ _
  have hlen : d.length ≤ 9223372036854775807 := hd
  by_cases hbig : 1048576 < (d.length : Int)
  · go_enter Try.func14, Try.ntmps14
    go_wp2
    go_ret
    exact ⟨rfl, Below.refl _ _⟩
  have hI := fun W => newFileOut_any f d W hd
  have hS := fun W => sNewFileOut_any f d W hd
  have hm := nfL_le f d
  generalize nfL f d = L at *
  generalize nfF f d = f' at *
  generalize nfD f d = d' at *
  generalize nfOk f d = ok at *
  go_enter Try.func14, Try.ntmps14
  go_wp2_with fail
  refine (hS _).mono ?_
  rintro e w1 ⟨A0, c0, rfl, onew, hb1⟩
  have hs1 : Below w.heap.size w w1 := hb1
  have hB1 := below_step hB0 hs1
  have hz1 := hb1.size
  have o0_1 := onew
  have hA0 := own_row onew
  clear onew
  go_wp2_with fail
  refine (hI _).mono ?_
  rintro e w2 ⟨A1, c1, rfl, onew, hb2⟩
  have hs2 : Below w1.heap.size w1 w2 := ((Below.refl _ _).alloc (Nat.le_refl _) _).trans (hb2.mono (by simp))
  have hB2 := below_step hB1 hs2
  have hz2 := hb2.size
  simp only [World.size_alloc] at hz2
  have l0_2 : w1.heap.size < w2.heap.size := by omega
  have b0c0_2 : w2.cell? ⟨w1.heap.size, 0, none⟩ = some (.int .i64 f') := (hb2.cell (p := ⟨w1.heap.size, 0, none⟩) (by simp)).trans (by simp [go_sem])
  have b0c1_2 : w2.cell? ⟨w1.heap.size, 1, none⟩ = some (.string ⟨d'.toArray⟩) := (hb2.cell (p := ⟨w1.heap.size, 1, none⟩) (by simp)).trans (by simp [go_sem])
  have b0c2_2 : w2.cell? ⟨w1.heap.size, 2, none⟩ = some (.slice A0 L.length c0) := (hb2.cell (p := ⟨w1.heap.size, 2, none⟩) (by simp)).trans (by simp [go_sem])
  have b0c3_2 : w2.cell? ⟨w1.heap.size, 3, none⟩ = some (.bool false) := (hb2.cell (p := ⟨w1.heap.size, 3, none⟩) (by simp)).trans (by simp [go_sem])
  have o0_2 := own_below o0_1 hs2
  simp only [World.size_alloc] at onew
  have o1_2 := onew
  have hA1 := own_row onew
  clear onew
  go_wp2_with fail
  refine (eqFileOut_same _ _ _ _ _ _ _ _ L _ _ rfl rfl (by omega) ((Rd.of_own o1_2).alloc _) ((Rd.of_own o0_2).alloc _)).mono ?_
  rintro e w3 ⟨rfl, hb3⟩
  have hs3 : Below w2.heap.size w2 w3 := ((Below.refl _ _).alloc (Nat.le_refl _) _).trans (hb3.mono (by simp))
  have hB3 := below_step hB2 hs3
  have hz3 := hb3.size
  simp only [World.size_alloc] at hz3
  have l0_3 : w1.heap.size < w3.heap.size := by omega
  have l1_3 : w2.heap.size < w3.heap.size := by omega
  have b0c0_3 : w3.cell? ⟨w1.heap.size, 0, none⟩ = some (.int .i64 f') := (hb3.cell (p := ⟨w1.heap.size, 0, none⟩) (by simp; omega)).trans (by simp [go_sem, b0c0_2, l0_2])
  have b0c1_3 : w3.cell? ⟨w1.heap.size, 1, none⟩ = some (.string ⟨d'.toArray⟩) := (hb3.cell (p := ⟨w1.heap.size, 1, none⟩) (by simp; omega)).trans (by simp [go_sem, b0c1_2, l0_2])
  have b0c2_3 : w3.cell? ⟨w1.heap.size, 2, none⟩ = some (.slice A0 L.length c0) := (hb3.cell (p := ⟨w1.heap.size, 2, none⟩) (by simp; omega)).trans (by simp [go_sem, b0c2_2, l0_2])
  have b0c3_3 : w3.cell? ⟨w1.heap.size, 3, none⟩ = some (.bool false) := (hb3.cell (p := ⟨w1.heap.size, 3, none⟩) (by simp; omega)).trans (by simp [go_sem, b0c3_2, l0_2])
  have b1c0_3 : w3.cell? ⟨w2.heap.size, 0, none⟩ = some (.int .i64 f') := (hb3.cell (p := ⟨w2.heap.size, 0, none⟩) (by simp)).trans (by simp [go_sem])
  have b1c1_3 : w3.cell? ⟨w2.heap.size, 1, none⟩ = some (.string ⟨d'.toArray⟩) := (hb3.cell (p := ⟨w2.heap.size, 1, none⟩) (by simp)).trans (by simp [go_sem])
  have b1c2_3 : w3.cell? ⟨w2.heap.size, 2, none⟩ = some (.slice A1 L.length c1) := (hb3.cell (p := ⟨w2.heap.size, 2, none⟩) (by simp)).trans (by simp [go_sem])
  have b1c3_3 : w3.cell? ⟨w2.heap.size, 3, none⟩ = some (.bool false) := (hb3.cell (p := ⟨w2.heap.size, 3, none⟩) (by simp)).trans (by simp [go_sem])
  have o0_3 := own_below o0_2 hs3
  have o1_3 := own_below o1_2 hs3
  clear b0c0_2 b0c1_2 b0c2_2 b0c3_2
  go_wp2_with fail
  refine (markFileOut_any _ _ _ _ _ _ _ _ _ _ (by decide) (by decide) (by omega) o1_3).mono ?_
  rintro e w4 ⟨rfl, om, hg⟩
  have hbm : Below w.heap.size w3 w4 := (Below.refl _ _).grown hg (by omega) (fun b hb => by have := hA1 b hb; omega)
  have hz4 := hg.size
  have hB4 := hB3.trans (hbm.mono (by omega))
  have l0_4 : w1.heap.size < w4.heap.size := by omega
  have l1_4 : w2.heap.size < w4.heap.size := by omega
  have b0c0_4 : w4.cell? ⟨w1.heap.size, 0, none⟩ = some (.int .i64 f') := ((rcell hg).1 _ _ l0_3 (fun e => by have := hA1 _ e; omega)).trans b0c0_3
  have b0c1_4 : w4.cell? ⟨w1.heap.size, 1, none⟩ = some (.string ⟨d'.toArray⟩) := ((rcell hg).1 _ _ l0_3 (fun e => by have := hA1 _ e; omega)).trans b0c1_3
  have b0c2_4 : w4.cell? ⟨w1.heap.size, 2, none⟩ = some (.slice A0 L.length c0) := ((rcell hg).1 _ _ l0_3 (fun e => by have := hA1 _ e; omega)).trans b0c2_3
  have b0c3_4 : w4.cell? ⟨w1.heap.size, 3, none⟩ = some (.bool false) := ((rcell hg).1 _ _ l0_3 (fun e => by have := hA1 _ e; omega)).trans b0c3_3
  have b1c0_4 : w4.cell? ⟨w2.heap.size, 0, none⟩ = some (.int .i64 f') := ((rcell hg).1 _ _ l1_3 (fun e => by have := hA1 _ e; omega)).trans b1c0_3
  have b1c1_4 : w4.cell? ⟨w2.heap.size, 1, none⟩ = some (.string ⟨d'.toArray⟩) := ((rcell hg).1 _ _ l1_3 (fun e => by have := hA1 _ e; omega)).trans b1c1_3
  have b1c2_4 : w4.cell? ⟨w2.heap.size, 2, none⟩ = some (.slice A1 L.length c1) := ((rcell hg).1 _ _ l1_3 (fun e => by have := hA1 _ e; omega)).trans b1c2_3
  have b1c3_4 : w4.cell? ⟨w2.heap.size, 3, none⟩ = some (.bool false) := ((rcell hg).1 _ _ l1_3 (fun e => by have := hA1 _ e; omega)).trans b1c3_3
  have o0_4 := own_grown o0_3 hg (fun b h1 h2 => by have := hA1 b h2; have := hA0 b h1; omega)
  have o1_4 := om
  clear b0c0_3 b0c1_3 b0c2_3 b0c3_3 b1c0_3 b1c1_3 b1c2_3 b1c3_3
  clear om hbm hg
  go_wp2_with fail
  refine (heldFileOut_any _ _ _ _ _ _ _ _ (by decide) (by decide) (by omega) (Rd.of_own o1_4)).mono ?_
  rintro e w5 ⟨rfl, hb5⟩
  have hs5 : Below w4.heap.size w4 w5 := hb5
  have hB5 := below_step hB4 hs5
  have hz5 := hb5.size
  have l0_5 : w1.heap.size < w5.heap.size := by omega
  have l1_5 : w2.heap.size < w5.heap.size := by omega
  have b0c0_5 : w5.cell? ⟨w1.heap.size, 0, none⟩ = some (.int .i64 f') := (hb5.cell (p := ⟨w1.heap.size, 0, none⟩) l0_4).trans b0c0_4
  have b0c1_5 : w5.cell? ⟨w1.heap.size, 1, none⟩ = some (.string ⟨d'.toArray⟩) := (hb5.cell (p := ⟨w1.heap.size, 1, none⟩) l0_4).trans b0c1_4
  have b0c2_5 : w5.cell? ⟨w1.heap.size, 2, none⟩ = some (.slice A0 L.length c0) := (hb5.cell (p := ⟨w1.heap.size, 2, none⟩) l0_4).trans b0c2_4
  have b0c3_5 : w5.cell? ⟨w1.heap.size, 3, none⟩ = some (.bool false) := (hb5.cell (p := ⟨w1.heap.size, 3, none⟩) l0_4).trans b0c3_4
  have b1c0_5 : w5.cell? ⟨w2.heap.size, 0, none⟩ = some (.int .i64 f') := (hb5.cell (p := ⟨w2.heap.size, 0, none⟩) l1_4).trans b1c0_4
  have b1c1_5 : w5.cell? ⟨w2.heap.size, 1, none⟩ = some (.string ⟨d'.toArray⟩) := (hb5.cell (p := ⟨w2.heap.size, 1, none⟩) l1_4).trans b1c1_4
  have b1c2_5 : w5.cell? ⟨w2.heap.size, 2, none⟩ = some (.slice A1 L.length c1) := (hb5.cell (p := ⟨w2.heap.size, 2, none⟩) l1_4).trans b1c2_4
  have b1c3_5 : w5.cell? ⟨w2.heap.size, 3, none⟩ = some (.bool false) := (hb5.cell (p := ⟨w2.heap.size, 3, none⟩) l1_4).trans b1c3_4
  have o0_5 := own_below o0_4 hs5
  have o1_5 := own_below o1_4 hs5
  clear b0c0_4 b0c1_4 b0c2_4 b0c3_4 b1c0_4 b1c1_4 b1c2_4 b1c3_4
  go_wp2_with fail
  refine (hI _).mono ?_
  rintro e w6 ⟨A2, c2, rfl, onew, hb6⟩
  have hs6 : Below w5.heap.size w5 w6 := hb6
  have hB6 := below_step hB5 hs6
  have hz6 := hb6.size
  have l0_6 : w1.heap.size < w6.heap.size := by omega
  have l1_6 : w2.heap.size < w6.heap.size := by omega
  have b0c0_6 : w6.cell? ⟨w1.heap.size, 0, none⟩ = some (.int .i64 f') := (hb6.cell (p := ⟨w1.heap.size, 0, none⟩) l0_5).trans b0c0_5
  have b0c1_6 : w6.cell? ⟨w1.heap.size, 1, none⟩ = some (.string ⟨d'.toArray⟩) := (hb6.cell (p := ⟨w1.heap.size, 1, none⟩) l0_5).trans b0c1_5
  have b0c2_6 : w6.cell? ⟨w1.heap.size, 2, none⟩ = some (.slice A0 L.length c0) := (hb6.cell (p := ⟨w1.heap.size, 2, none⟩) l0_5).trans b0c2_5
  have b0c3_6 : w6.cell? ⟨w1.heap.size, 3, none⟩ = some (.bool false) := (hb6.cell (p := ⟨w1.heap.size, 3, none⟩) l0_5).trans b0c3_5
  have b1c0_6 : w6.cell? ⟨w2.heap.size, 0, none⟩ = some (.int .i64 f') := (hb6.cell (p := ⟨w2.heap.size, 0, none⟩) l1_5).trans b1c0_5
  have b1c1_6 : w6.cell? ⟨w2.heap.size, 1, none⟩ = some (.string ⟨d'.toArray⟩) := (hb6.cell (p := ⟨w2.heap.size, 1, none⟩) l1_5).trans b1c1_5
  have b1c2_6 : w6.cell? ⟨w2.heap.size, 2, none⟩ = some (.slice A1 L.length c1) := (hb6.cell (p := ⟨w2.heap.size, 2, none⟩) l1_5).trans b1c2_5
  have b1c3_6 : w6.cell? ⟨w2.heap.size, 3, none⟩ = some (.bool false) := (hb6.cell (p := ⟨w2.heap.size, 3, none⟩) l1_5).trans b1c3_5
  have o0_6 := own_below o0_5 hs6
  have o1_6 := own_below o1_5 hs6
  clear b0c0_5 b0c1_5 b0c2_5 b0c3_5 b1c0_5 b1c1_5 b1c2_5 b1c3_5
  have o2_6 := onew
  have hA2 := own_row onew
  clear onew
  go_wp2_with fail
  refine (eqFileOut_same _ _ _ _ _ _ _ _ L _ _ rfl rfl (by omega) ((Rd.of_own o2_6).alloc _) ((Rd.of_own o0_6).alloc _)).mono ?_
  rintro e w7 ⟨rfl, hb7⟩
  have hs7 : Below w6.heap.size w6 w7 := ((Below.refl _ _).alloc (Nat.le_refl _) _).trans (hb7.mono (by simp))
  have hB7 := below_step hB6 hs7
  have hz7 := hb7.size
  simp only [World.size_alloc] at hz7
  have l0_7 : w1.heap.size < w7.heap.size := by omega
  have l1_7 : w2.heap.size < w7.heap.size := by omega
  have l2_7 : w6.heap.size < w7.heap.size := by omega
  have b0c0_7 : w7.cell? ⟨w1.heap.size, 0, none⟩ = some (.int .i64 f') := (hb7.cell (p := ⟨w1.heap.size, 0, none⟩) (by simp; omega)).trans (by simp [go_sem, b0c0_6, l0_6])
  have b0c1_7 : w7.cell? ⟨w1.heap.size, 1, none⟩ = some (.string ⟨d'.toArray⟩) := (hb7.cell (p := ⟨w1.heap.size, 1, none⟩) (by simp; omega)).trans (by simp [go_sem, b0c1_6, l0_6])
  have b0c2_7 : w7.cell? ⟨w1.heap.size, 2, none⟩ = some (.slice A0 L.length c0) := (hb7.cell (p := ⟨w1.heap.size, 2, none⟩) (by simp; omega)).trans (by simp [go_sem, b0c2_6, l0_6])
  have b0c3_7 : w7.cell? ⟨w1.heap.size, 3, none⟩ = some (.bool false) := (hb7.cell (p := ⟨w1.heap.size, 3, none⟩) (by simp; omega)).trans (by simp [go_sem, b0c3_6, l0_6])
  have b1c0_7 : w7.cell? ⟨w2.heap.size, 0, none⟩ = some (.int .i64 f') := (hb7.cell (p := ⟨w2.heap.size, 0, none⟩) (by simp; omega)).trans (by simp [go_sem, b1c0_6, l1_6])
  have b1c1_7 : w7.cell? ⟨w2.heap.size, 1, none⟩ = some (.string ⟨d'.toArray⟩) := (hb7.cell (p := ⟨w2.heap.size, 1, none⟩) (by simp; omega)).trans (by simp [go_sem, b1c1_6, l1_6])
  have b1c2_7 : w7.cell? ⟨w2.heap.size, 2, none⟩ = some (.slice A1 L.length c1) := (hb7.cell (p := ⟨w2.heap.size, 2, none⟩) (by simp; omega)).trans (by simp [go_sem, b1c2_6, l1_6])
  have b1c3_7 : w7.cell? ⟨w2.heap.size, 3, none⟩ = some (.bool false) := (hb7.cell (p := ⟨w2.heap.size, 3, none⟩) (by simp; omega)).trans (by simp [go_sem, b1c3_6, l1_6])
  have b2c0_7 : w7.cell? ⟨w6.heap.size, 0, none⟩ = some (.int .i64 f') := (hb7.cell (p := ⟨w6.heap.size, 0, none⟩) (by simp)).trans (by simp [go_sem])
  have b2c1_7 : w7.cell? ⟨w6.heap.size, 1, none⟩ = some (.string ⟨d'.toArray⟩) := (hb7.cell (p := ⟨w6.heap.size, 1, none⟩) (by simp)).trans (by simp [go_sem])
  have b2c2_7 : w7.cell? ⟨w6.heap.size, 2, none⟩ = some (.slice A2 L.length c2) := (hb7.cell (p := ⟨w6.heap.size, 2, none⟩) (by simp)).trans (by simp [go_sem])
  have b2c3_7 : w7.cell? ⟨w6.heap.size, 3, none⟩ = some (.bool false) := (hb7.cell (p := ⟨w6.heap.size, 3, none⟩) (by simp)).trans (by simp [go_sem])
  have o0_7 := own_below o0_6 hs7
  have o1_7 := own_below o1_6 hs7
  have o2_7 := own_below o2_6 hs7
  clear b0c0_6 b0c1_6 b0c2_6 b0c3_6 b1c0_6 b1c1_6 b1c2_6 b1c3_6
  go_wp2_with fail
  refine (heldFileOut_any _ _ _ _ _ _ _ _ (by decide) (by decide) (by omega) (Rd.of_own o1_7)).mono ?_
  rintro e w8 ⟨rfl, hb8⟩
  have hs8 : Below w7.heap.size w7 w8 := hb8
  have hB8 := below_step hB7 hs8
  have hz8 := hb8.size
  have l0_8 : w1.heap.size < w8.heap.size := by omega
  have l1_8 : w2.heap.size < w8.heap.size := by omega
  have l2_8 : w6.heap.size < w8.heap.size := by omega
  have b0c0_8 : w8.cell? ⟨w1.heap.size, 0, none⟩ = some (.int .i64 f') := (hb8.cell (p := ⟨w1.heap.size, 0, none⟩) l0_7).trans b0c0_7
  have b0c1_8 : w8.cell? ⟨w1.heap.size, 1, none⟩ = some (.string ⟨d'.toArray⟩) := (hb8.cell (p := ⟨w1.heap.size, 1, none⟩) l0_7).trans b0c1_7
  have b0c2_8 : w8.cell? ⟨w1.heap.size, 2, none⟩ = some (.slice A0 L.length c0) := (hb8.cell (p := ⟨w1.heap.size, 2, none⟩) l0_7).trans b0c2_7
  have b0c3_8 : w8.cell? ⟨w1.heap.size, 3, none⟩ = some (.bool false) := (hb8.cell (p := ⟨w1.heap.size, 3, none⟩) l0_7).trans b0c3_7
  have b1c0_8 : w8.cell? ⟨w2.heap.size, 0, none⟩ = some (.int .i64 f') := (hb8.cell (p := ⟨w2.heap.size, 0, none⟩) l1_7).trans b1c0_7
  have b1c1_8 : w8.cell? ⟨w2.heap.size, 1, none⟩ = some (.string ⟨d'.toArray⟩) := (hb8.cell (p := ⟨w2.heap.size, 1, none⟩) l1_7).trans b1c1_7
  have b1c2_8 : w8.cell? ⟨w2.heap.size, 2, none⟩ = some (.slice A1 L.length c1) := (hb8.cell (p := ⟨w2.heap.size, 2, none⟩) l1_7).trans b1c2_7
  have b1c3_8 : w8.cell? ⟨w2.heap.size, 3, none⟩ = some (.bool false) := (hb8.cell (p := ⟨w2.heap.size, 3, none⟩) l1_7).trans b1c3_7
  have b2c0_8 : w8.cell? ⟨w6.heap.size, 0, none⟩ = some (.int .i64 f') := (hb8.cell (p := ⟨w6.heap.size, 0, none⟩) l2_7).trans b2c0_7
  have b2c1_8 : w8.cell? ⟨w6.heap.size, 1, none⟩ = some (.string ⟨d'.toArray⟩) := (hb8.cell (p := ⟨w6.heap.size, 1, none⟩) l2_7).trans b2c1_7
  have b2c2_8 : w8.cell? ⟨w6.heap.size, 2, none⟩ = some (.slice A2 L.length c2) := (hb8.cell (p := ⟨w6.heap.size, 2, none⟩) l2_7).trans b2c2_7
  have b2c3_8 : w8.cell? ⟨w6.heap.size, 3, none⟩ = some (.bool false) := (hb8.cell (p := ⟨w6.heap.size, 3, none⟩) l2_7).trans b2c3_7
  have o0_8 := own_below o0_7 hs8
  have o1_8 := own_below o1_7 hs8
  have o2_8 := own_below o2_7 hs8
  clear b0c0_7 b0c1_7 b0c2_7 b0c3_7 b1c0_7 b1c1_7 b1c2_7 b1c3_7 b2c0_7 b2c1_7 b2c2_7 b2c3_7
  go_wp2
  go_ret
  exact ⟨rfl, hB8⟩

/-! ### The row's step, written by a program of ours (frame.py) -/
namespace fnExactNewFileOutDone
open Go.ChangeShapes Go.WideShapes Go.ChangeAt
open Go.ChangeMaps (open_string)
theorem own : ownKnob Try.prog.godebug = none := by kernel_rfl
theorem laidOut : laidOutB Try.prog = true := by kernel_rfl
set_option maxRecDepth 100000 in
theorem lifted (os : Os) (started : os.Started) (H : Type) (enc : TypeId × Value → H) :
    ReturnsInHanded {} Try.checked os 14 .any (Rows.fnExactNewFileOutSpec.pre6 enc Try.prog Try.f14 Rows.fnExactNewFileOutRow.domain false) (Rows.fnExactNewFileOutSpec.post enc Try.prog Try.f14 false true false false) := by
  refine returnsInHanded_of_change (C := Try.checked) own started (by kernel_rfl) Try.func14
    (ChangeSpec.witness6 (enc := enc) (C := Try.checked) false ⟨#[], #[.int .i64 0, .string .empty], []⟩ 8 (by kernel_rfl) (by kernel_rfl) (by kernel_rfl) (by kernel_rfl)) ?_
  intro W base args ds gs before hval0 hW hcnd _
  have hval : ∀ (j : Nat) t v, Try.f14.params[j]? = some t → args[j]? = some v → Value.okWide Try.prog W .any base t v := hval0
  have hW' := hW
  obtain ⟨p, q, hA0, hV, rfl, hfz, hnd⟩ := hW
  have hA : DataW.TrodAll enc Try.prog W 0 (fun _ => true) true Try.f14.params.toList args.toList ds p := hA0
  rw [Try.params14] at hA hval
  obtain ⟨v0, vs0, d0, ds0, p0, q0, hargs, rfl, rfl, h0, r0⟩ := trodAll_cons hA
  obtain ⟨v1, vs1, d1, ds1, p1, q1, rfl, rfl, rfl, h1, r1⟩ := trodAll_cons r0
  obtain ⟨rfl, rfl, rfl⟩ := trodAll_nil r1
  obtain rfl : args = #[v0, v1] := by cases args; simp_all
  obtain ⟨rfl, rfl⟩ := trodVars_none hV
  have k0 := h0
  have lt0 : ∀ x ∈ p0, x.block < W.heap.size := by obtain ⟨m, hm⟩ := k0; exact DataW.trod_lt m _ _ _ hm
  have k1 := h1
  have lt1 : ∀ x ∈ p1, x.block < W.heap.size := by obtain ⟨m, hm⟩ := k1; exact DataW.trod_lt m _ _ _ hm
  obtain ⟨a0, rfl, rfl, rfl, w0⟩ := open_int Try.underlying3 (hval 0 3 v0 rfl rfl) h0
  obtain ⟨s1, rfl, rfl, rfl, w1⟩ := open_string Try.underlying9 (hval 1 9 v1 rfl rfl) h1
  obtain ⟨l1, rfl⟩ : ∃ l : List UInt8, s1 = ⟨l.toArray⟩ := ⟨s1.data.toList, by simp⟩
  clear hA0 hval0
  refine (fnExactNewFileOut_walk (w := W) a0 (i64_of_wf w0) l1 (txt_of w1)).mono fun e W' ⟨he, bel⟩ => ?_
  subst he
  exact ⟨_, rfl, _, _, _, [], _, [], hW', trodAll_mk1 (shut_bool Try.underlying4 _), (trodAll_cons_mk (Below.trod laidOut (by kernel_rfl) (of_decide_eq_true (by kernel_rfl)) k0 bel lt0) (trodAll_cons_mk (Below.trod laidOut (by kernel_rfl) (of_decide_eq_true (by kernel_rfl)) k1 bel lt1) trodAll_mk0)), rfl, bel.frame _, fun h => by cases h⟩
theorem proved : Rows.FnExactNewFileOutSaid :=
  OpenClaim.holds_of_wide 14 Try.f14 rfl rfl rfl rfl rfl rfl rfl ⟨rfl, rfl, rfl, rfl, rfl⟩ rfl rfl rfl rfl rfl (by kernel_rfl) Try.func14 (by kernel_rfl)
    (of_decide_eq_true (by kernel_rfl)) (by unfold Func.isWrapper; first | (rw [if_pos (by decide +kernel)]; kernel_rfl) | (rw [if_neg (by decide +kernel)]; exact ⟨rfl, rfl⟩))
    (fun os started H enc _ => lifted os started H enc)
end fnExactNewFileOutDone
end Go.Proofs.Ytimlddibaffjoaa
