/- For every receiver of a file the program's FileText returns what the reference's returns, and leaves it as it was. No condition. -/
import Derived.Test.YtimlddibaffjoaaFileText
import Derived.Test.YtimlddibaffjoaaFileIn
import Derived.Test.YtimlddibaffjoaaFileInArg
namespace Go.Proofs.Ytimlddibaffjoaa
open Go.RowKit

theorem fnExactFileText_walk {w : World} (a b c : Int) (A : Option Addr) (n cp : Nat) (zs : List (List UInt8)) (_ha : I64 a) (_hb : I64 b) (_hc : I64 c) (hn : zs.length = n) (_hnc : n ≤ cp) (hcm : cp ≤ maxLen) (hr : Rd w 1 A n (zs.flatMap cS)) (hwf : ∀ r ∈ zs, Txt r) :
    Calls Try.prog 15 #[.agg #[.int .i64 a, .int .i64 b, .int .i64 c, .slice A n cp]] w fun e w' => e = .returned (.bool true) ∧ Below w.heap.size w w' := by
  have hB0 : Below w.heap.size w w := Below.refl _ _
  have hrB0 := fun W' (hB : Below w.heap.size w W') => hr.below hB
  subst hn
  unfold maxLen at hcm
  go_enter Try.func15, Try.ntmps15
  go_wp2_with fail
  refine (szFileIn_any _ _ _ _ _ _ zs _ _ rfl (by omega) (by omega) (by omega) hwf ((hrB0 _ hB0).alloc _)).mono ?_
  rintro e w1 ⟨q, rfl, hq0, hq1, hq2, hb1⟩
  have hs1 : Below w.heap.size w w1 := ((Below.refl _ _).alloc (Nat.le_refl _) _).trans (hb1.mono (by simp))
  have hB1 := below_step hB0 hs1
  have hz1 := hb1.size
  simp only [World.size_alloc] at hz1
  have l0_1 : w.heap.size < w1.heap.size := by omega
  have b0c0_1 : w1.cell? ⟨w.heap.size, 0, none⟩ = some (.int .i64 a) := (hb1.cell (p := ⟨w.heap.size, 0, none⟩) (by simp)).trans (by simp [go_sem])
  have b0c1_1 : w1.cell? ⟨w.heap.size, 1, none⟩ = some (.int .i64 b) := (hb1.cell (p := ⟨w.heap.size, 1, none⟩) (by simp)).trans (by simp [go_sem])
  have b0c2_1 : w1.cell? ⟨w.heap.size, 2, none⟩ = some (.int .i64 c) := (hb1.cell (p := ⟨w.heap.size, 2, none⟩) (by simp)).trans (by simp [go_sem])
  have b0c3_1 : w1.cell? ⟨w.heap.size, 3, none⟩ = some (.slice A zs.length cp) := (hb1.cell (p := ⟨w.heap.size, 3, none⟩) (by simp)).trans (by simp [go_sem])
  by_cases hq : q < 0
  · go_wp2
    go_ret
    exact ⟨rfl, hB1⟩
  have hm : zs.length ≤ 1048576 := by have := hq2 (by omega); omega
  have hI := fun W A c' hr => fileText_any a b c A _ c' zs W rfl hm hwf hr
  have hS := fun W A c' hr => sFileText_any a b c A _ c' zs W rfl hm hwf hr
  have hV : ∃ (T : List UInt8) (ok : Bool), ftV a b c zs = .tuple #[.string ⟨T.toArray⟩, .bool ok] := ⟨_, _, rfl⟩
  obtain ⟨T, ok, hV⟩ := hV
  rw [hV] at hI hS
  clear hV
  go_wp2_with fail
  refine (toFileIn_any _ _ _ _ _ _ zs _ rfl hm (hrB0 _ hB1)).mono ?_
  rintro e w2 ⟨g2, rfl, onew, hb2⟩
  have hs2 : Below w1.heap.size w1 w2 := hb2
  have hB2 := below_step hB1 hs2
  have hz2 := hb2.size
  have l0_2 : w.heap.size < w2.heap.size := by omega
  have b0c0_2 : w2.cell? ⟨w.heap.size, 0, none⟩ = some (.int .i64 a) := (hb2.cell (p := ⟨w.heap.size, 0, none⟩) l0_1).trans b0c0_1
  have b0c1_2 : w2.cell? ⟨w.heap.size, 1, none⟩ = some (.int .i64 b) := (hb2.cell (p := ⟨w.heap.size, 1, none⟩) l0_1).trans b0c1_1
  have b0c2_2 : w2.cell? ⟨w.heap.size, 2, none⟩ = some (.int .i64 c) := (hb2.cell (p := ⟨w.heap.size, 2, none⟩) l0_1).trans b0c2_1
  have b0c3_2 : w2.cell? ⟨w.heap.size, 3, none⟩ = some (.slice A zs.length cp) := (hb2.cell (p := ⟨w.heap.size, 3, none⟩) l0_1).trans b0c3_1
  clear b0c0_1 b0c1_1 b0c2_1 b0c3_1
  have o0_2 := onew
  have hA0 := own_row onew
  clear onew
  go_wp2_with fail
  refine (hS _ _ _ (Rd.of_own o0_2)).mono ?_
  rintro e w3 ⟨rfl, hb3⟩
  have hs3 : Below w2.heap.size w2 w3 := hb3
  have hB3 := below_step hB2 hs3
  have hz3 := hb3.size
  have l0_3 : w.heap.size < w3.heap.size := by omega
  have b0c0_3 : w3.cell? ⟨w.heap.size, 0, none⟩ = some (.int .i64 a) := (hb3.cell (p := ⟨w.heap.size, 0, none⟩) l0_2).trans b0c0_2
  have b0c1_3 : w3.cell? ⟨w.heap.size, 1, none⟩ = some (.int .i64 b) := (hb3.cell (p := ⟨w.heap.size, 1, none⟩) l0_2).trans b0c1_2
  have b0c2_3 : w3.cell? ⟨w.heap.size, 2, none⟩ = some (.int .i64 c) := (hb3.cell (p := ⟨w.heap.size, 2, none⟩) l0_2).trans b0c2_2
  have b0c3_3 : w3.cell? ⟨w.heap.size, 3, none⟩ = some (.slice A zs.length cp) := (hb3.cell (p := ⟨w.heap.size, 3, none⟩) l0_2).trans b0c3_2
  have o0_3 := own_below o0_2 hs3
  clear b0c0_2 b0c1_2 b0c2_2 b0c3_2
  go_wp2_with fail
  refine (toFileIn_any _ _ _ _ _ _ zs _ rfl hm (hrB0 _ hB3)).mono ?_
  rintro e w4 ⟨g4, rfl, onew, hb4⟩
  have hs4 : Below w3.heap.size w3 w4 := hb4
  have hB4 := below_step hB3 hs4
  have hz4 := hb4.size
  have l0_4 : w.heap.size < w4.heap.size := by omega
  have b0c0_4 : w4.cell? ⟨w.heap.size, 0, none⟩ = some (.int .i64 a) := (hb4.cell (p := ⟨w.heap.size, 0, none⟩) l0_3).trans b0c0_3
  have b0c1_4 : w4.cell? ⟨w.heap.size, 1, none⟩ = some (.int .i64 b) := (hb4.cell (p := ⟨w.heap.size, 1, none⟩) l0_3).trans b0c1_3
  have b0c2_4 : w4.cell? ⟨w.heap.size, 2, none⟩ = some (.int .i64 c) := (hb4.cell (p := ⟨w.heap.size, 2, none⟩) l0_3).trans b0c2_3
  have b0c3_4 : w4.cell? ⟨w.heap.size, 3, none⟩ = some (.slice A zs.length cp) := (hb4.cell (p := ⟨w.heap.size, 3, none⟩) l0_3).trans b0c3_3
  have o0_4 := own_below o0_3 hs4
  clear b0c0_3 b0c1_3 b0c2_3 b0c3_3
  have o1_4 := onew
  have hA1 := own_row onew
  clear onew
  go_wp2_with fail
  refine (hI _ _ _ ((Rd.of_own o1_4).alloc _)).mono ?_
  rintro e w5 ⟨rfl, hb5⟩
  have hs5 : Below w4.heap.size w4 w5 := ((Below.refl _ _).alloc (Nat.le_refl _) _).trans (hb5.mono (by simp))
  have hB5 := below_step hB4 hs5
  have hz5 := hb5.size
  simp only [World.size_alloc] at hz5
  have l0_5 : w.heap.size < w5.heap.size := by omega
  have l1_5 : w4.heap.size < w5.heap.size := by omega
  have b0c0_5 : w5.cell? ⟨w.heap.size, 0, none⟩ = some (.int .i64 a) := (hb5.cell (p := ⟨w.heap.size, 0, none⟩) (by simp; omega)).trans (by simp [go_sem, b0c0_4, l0_4])
  have b0c1_5 : w5.cell? ⟨w.heap.size, 1, none⟩ = some (.int .i64 b) := (hb5.cell (p := ⟨w.heap.size, 1, none⟩) (by simp; omega)).trans (by simp [go_sem, b0c1_4, l0_4])
  have b0c2_5 : w5.cell? ⟨w.heap.size, 2, none⟩ = some (.int .i64 c) := (hb5.cell (p := ⟨w.heap.size, 2, none⟩) (by simp; omega)).trans (by simp [go_sem, b0c2_4, l0_4])
  have b0c3_5 : w5.cell? ⟨w.heap.size, 3, none⟩ = some (.slice A zs.length cp) := (hb5.cell (p := ⟨w.heap.size, 3, none⟩) (by simp; omega)).trans (by simp [go_sem, b0c3_4, l0_4])
  have b1c0_5 : w5.cell? ⟨w4.heap.size, 0, none⟩ = some (.int .i64 a) := (hb5.cell (p := ⟨w4.heap.size, 0, none⟩) (by simp)).trans (by simp [go_sem])
  have b1c1_5 : w5.cell? ⟨w4.heap.size, 1, none⟩ = some (.int .i64 b) := (hb5.cell (p := ⟨w4.heap.size, 1, none⟩) (by simp)).trans (by simp [go_sem])
  have b1c2_5 : w5.cell? ⟨w4.heap.size, 2, none⟩ = some (.int .i64 c) := (hb5.cell (p := ⟨w4.heap.size, 2, none⟩) (by simp)).trans (by simp [go_sem])
  have b1c3_5 : w5.cell? ⟨w4.heap.size, 3, none⟩ = some (.slice (some ⟨g4, 0, none⟩) zs.length zs.length) := (hb5.cell (p := ⟨w4.heap.size, 3, none⟩) (by simp)).trans (by simp [go_sem])
  have o0_5 := own_below o0_4 hs5
  have o1_5 := own_below o1_4 hs5
  clear b0c0_4 b0c1_4 b0c2_4 b0c3_4
  go_wp2_with fail
  have HK : Hid (∀ wx, Below w5.heap.size w5 wx → (Below w5.heap.size w5 wx ∧ wx.cell? ⟨w.heap.size, 0, none⟩ = some (.int .i64 a) ∧ wx.cell? ⟨w.heap.size, 1, none⟩ = some (.int .i64 b) ∧ wx.cell? ⟨w.heap.size, 2, none⟩ = some (.int .i64 c) ∧ wx.cell? ⟨w.heap.size, 3, none⟩ = some (.slice A zs.length cp) ∧ wx.cell? ⟨w4.heap.size, 0, none⟩ = some (.int .i64 a) ∧ wx.cell? ⟨w4.heap.size, 1, none⟩ = some (.int .i64 b) ∧ wx.cell? ⟨w4.heap.size, 2, none⟩ = some (.int .i64 c) ∧ wx.cell? ⟨w4.heap.size, 3, none⟩ = some (.slice (some ⟨g4, 0, none⟩) zs.length zs.length))) := Lib.hid (fun wx h => ⟨h, (h.cell (p := ⟨w.heap.size, 0, none⟩) l0_5).trans b0c0_5, (h.cell (p := ⟨w.heap.size, 1, none⟩) l0_5).trans b0c1_5, (h.cell (p := ⟨w.heap.size, 2, none⟩) l0_5).trans b0c2_5, (h.cell (p := ⟨w.heap.size, 3, none⟩) l0_5).trans b0c3_5, (h.cell (p := ⟨w4.heap.size, 0, none⟩) l1_5).trans b1c0_5, (h.cell (p := ⟨w4.heap.size, 1, none⟩) l1_5).trans b1c1_5, (h.cell (p := ⟨w4.heap.size, 2, none⟩) l1_5).trans b1c2_5, (h.cell (p := ⟨w4.heap.size, 3, none⟩) l1_5).trans b1c3_5⟩)
  go_region_held3 (fun wx => Below w5.heap.size w5 wx ∧ wx.cell? ⟨w.heap.size, 0, none⟩ = some (.int .i64 a) ∧ wx.cell? ⟨w.heap.size, 1, none⟩ = some (.int .i64 b) ∧ wx.cell? ⟨w.heap.size, 2, none⟩ = some (.int .i64 c) ∧ wx.cell? ⟨w.heap.size, 3, none⟩ = some (.slice A zs.length cp) ∧ wx.cell? ⟨w4.heap.size, 0, none⟩ = some (.int .i64 a) ∧ wx.cell? ⟨w4.heap.size, 1, none⟩ = some (.int .i64 b) ∧ wx.cell? ⟨w4.heap.size, 2, none⟩ = some (.int .i64 c) ∧ wx.cell? ⟨w4.heap.size, 3, none⟩ = some (.slice (some ⟨g4, 0, none⟩) zs.length zs.length)) (first | exact HK.out _ (Below.refl _ _).drew | exact HK.out _ (below_step (And.left ‹_›) ‹_›)) (first | (go_at_call 45; refine (toFileIn_any _ _ _ _ _ _ zs _ rfl hm ((hrB0 _ hB5).below (And.left ‹_›))).mono ?_; rintro e w' ⟨g6, rfl, hown6, hb6⟩) | (go_at_call 32; refine (eqFileIn_same _ _ _ _ _ _ _ _ _ zs _ rfl rfl (by omega) ((Rd.of_own o1_5).below (And.left ‹_›)) (Rd.of_own (by assumption))).mono ?_; rintro e w' ⟨rfl, hb7⟩))
  all_goals
    rename_i hHeld
    obtain ⟨w6, rfl, hb6⟩ := name_below hHeld
    clear hHeld HK
    have hs6 : Below w5.heap.size w5 w6 := hb6
    have hB6 := below_step hB5 hs6
    have hz6 := hb6.size
    have l0_6 : w.heap.size < w6.heap.size := by omega
    have l1_6 : w4.heap.size < w6.heap.size := by omega
    have b0c0_6 : w6.cell? ⟨w.heap.size, 0, none⟩ = some (.int .i64 a) := (hb6.cell (p := ⟨w.heap.size, 0, none⟩) l0_5).trans b0c0_5
    have b0c1_6 : w6.cell? ⟨w.heap.size, 1, none⟩ = some (.int .i64 b) := (hb6.cell (p := ⟨w.heap.size, 1, none⟩) l0_5).trans b0c1_5
    have b0c2_6 : w6.cell? ⟨w.heap.size, 2, none⟩ = some (.int .i64 c) := (hb6.cell (p := ⟨w.heap.size, 2, none⟩) l0_5).trans b0c2_5
    have b0c3_6 : w6.cell? ⟨w.heap.size, 3, none⟩ = some (.slice A zs.length cp) := (hb6.cell (p := ⟨w.heap.size, 3, none⟩) l0_5).trans b0c3_5
    have b1c0_6 : w6.cell? ⟨w4.heap.size, 0, none⟩ = some (.int .i64 a) := (hb6.cell (p := ⟨w4.heap.size, 0, none⟩) l1_5).trans b1c0_5
    have b1c1_6 : w6.cell? ⟨w4.heap.size, 1, none⟩ = some (.int .i64 b) := (hb6.cell (p := ⟨w4.heap.size, 1, none⟩) l1_5).trans b1c1_5
    have b1c2_6 : w6.cell? ⟨w4.heap.size, 2, none⟩ = some (.int .i64 c) := (hb6.cell (p := ⟨w4.heap.size, 2, none⟩) l1_5).trans b1c2_5
    have b1c3_6 : w6.cell? ⟨w4.heap.size, 3, none⟩ = some (.slice (some ⟨g4, 0, none⟩) zs.length zs.length) := (hb6.cell (p := ⟨w4.heap.size, 3, none⟩) l1_5).trans b1c3_5
    have o0_6 := own_below o0_5 hs6
    have o1_6 := own_below o1_5 hs6
    clear b0c0_5 b0c1_5 b0c2_5 b0c3_5 b1c0_5 b1c1_5 b1c2_5 b1c3_5
    go_wp2
    go_ret
    exact ⟨rfl, hB6⟩

/-! ### The row's step, written by a program of ours (frame.py) -/
namespace fnExactFileTextDone
open Go.ChangeShapes Go.WideShapes Go.ChangeAt
open Go.ChangeMaps (open_string)
theorem own : ownKnob Try.prog.godebug = none := by kernel_rfl
theorem laidOut : laidOutB Try.prog = true := by kernel_rfl
set_option maxRecDepth 100000 in
theorem lifted (os : Os) (started : os.Started) (H : Type) (enc : TypeId × Value → H) :
    ReturnsInHanded {} Try.checked os 15 .any (Rows.fnExactFileTextSpec.pre6 enc Try.prog Try.f15 Rows.fnExactFileTextRow.domain false) (Rows.fnExactFileTextSpec.post enc Try.prog Try.f15 false true false false) := by
  refine returnsInHanded_of_change (C := Try.checked) own started (by kernel_rfl) Try.func15
    (ChangeSpec.witness6 (enc := enc) (C := Try.checked) false ⟨#[], #[.agg #[.int .i64 0, .int .i64 0, .int .i64 0, .slice none 0 0]], []⟩ 8 (by kernel_rfl) (by kernel_rfl) (by kernel_rfl) (by kernel_rfl)) ?_
  intro W base args ds gs before hval0 hW hcnd _
  have hval : ∀ (j : Nat) t v, Try.f15.params[j]? = some t → args[j]? = some v → Value.okWide Try.prog W .any base t v := hval0
  have hW' := hW
  obtain ⟨p, q, hA0, hV, rfl, hfz, hnd⟩ := hW
  have hA : DataW.TrodAll enc Try.prog W 0 (fun _ => true) true Try.f15.params.toList args.toList ds p := hA0
  rw [Try.params15] at hA hval
  obtain ⟨v0, vs0, d0, ds0, p0, q0, hargs, rfl, rfl, h0, r0⟩ := trodAll_cons hA
  obtain ⟨rfl, rfl, rfl⟩ := trodAll_nil r0
  obtain rfl : args = #[v0] := by cases args; simp_all
  obtain ⟨rfl, rfl⟩ := trodVars_none hV
  have k0 := h0
  have lt0 : ∀ x ∈ p0, x.block < W.heap.size := by obtain ⟨m, hm⟩ := k0; exact DataW.trod_lt m _ _ _ hm
  obtain ⟨cs0, rfl, _⟩ := okWide_struct Try.underlying49 (hval 0 49 v0 rfl rfl)
  obtain ⟨fuel0, hf0⟩ := h0
  obtain ⟨x0a, x0b, x0c, A0, n0, c0, rs0, hcs0, hxa0, hxb0, hxc0, hlen0, hnc0, hcm0, hrd0, hwf0⟩ := open_FileIn hf0
  obtain ⟨cs0⟩ := cs0
  simp only [Value.cells] at hcs0
  subst hcs0
  clear hA0 hval0
  refine (fnExactFileText_walk (w := W) x0a x0b x0c A0 n0 c0 rs0 hxa0 hxb0 hxc0 hlen0 hnc0 hcm0 hrd0 hwf0).mono fun e W' ⟨he, bel⟩ => ?_
  subst he
  exact ⟨_, rfl, _, _, _, [], _, [], hW', trodAll_mk1 (shut_bool Try.underlying4 _), (trodAll_cons_mk (Below.trod laidOut (by kernel_rfl) (of_decide_eq_true (by kernel_rfl)) k0 bel lt0) trodAll_mk0), rfl, bel.frame _, fun h => by cases h⟩
theorem proved : Rows.FnExactFileTextSaid :=
  OpenClaim.holds_of_wide 15 Try.f15 rfl rfl rfl rfl rfl rfl rfl ⟨rfl, rfl, rfl, rfl, rfl⟩ rfl rfl rfl rfl rfl (by kernel_rfl) Try.func15 (by kernel_rfl)
    (of_decide_eq_true (by kernel_rfl)) (by unfold Func.isWrapper; first | (rw [if_pos (by decide +kernel)]; kernel_rfl) | (rw [if_neg (by decide +kernel)]; exact ⟨rfl, rfl⟩))
    (fun os started H enc _ => lifted os started H enc)
end fnExactFileTextDone
end Go.Proofs.Ytimlddibaffjoaa
