/- For every number the program's NewFileIn returns what the reference's returns, in memory of its own. No condition. -/
import Derived.Test.YtimlddibaffjoaaFileIn
namespace Go.Proofs.Ytimlddibaffjoaa
open Go.RowKit

theorem fnExactNewFileIn_walk (f : Int) (_hf : I64 f) (w : World) :
    Calls Try.prog 9 #[.int .i64 f] w fun e w' => e = .returned (.bool true) ∧ Below w.heap.size w w' := by
  have hl : (List.replicate 25 ([] : List UInt8)).length = 25 := rfl
  go_enter Try.func9, Try.ntmps9
  go_wp2_with fail
  refine (sNewFileIn_any f _).mono ?_
  rintro e w1 ⟨g1, rfl, hown1, hb1⟩
  have hr1 := (Rd.of_own hown1).alloc (.cells #[.int .i64 f, .int .i64 (-1), .int .i64 (-1), .slice (some ⟨g1, 0, none⟩) 25 25] 37)
  go_wp2_with fail
  refine (newFileIn_any f _).mono ?_
  rintro e w2 ⟨g2, rfl, hown2, hb2⟩
  have hr2 := hr1.below hb2
  obtain ⟨hc2, hf2⟩ := bcell hb2
  have hz2 := hb2.size
  have hg2 := own_lt hown2
  simp only [World.size_alloc] at hz2 hg2
  have hl2 : w1.heap.size < w2.heap.size := by omega
  go_wp2_with fail
  refine (eqFileIn_same _ _ _ _ _ _ _ _ _ (List.replicate 25 []) _ hl hl (by omega) ((Rd.of_own hown2).alloc _) (hr2.alloc _)).mono ?_
  rintro e w3 ⟨rfl, hb3⟩
  obtain ⟨hc3, hf3⟩ := bcell hb3
  have hz3 := hb3.size
  simp only [World.size_alloc] at hz3
  have hl31 : w1.heap.size < w3.heap.size := by omega
  have hl32 : w2.heap.size < w3.heap.size := by omega
  have hown3 := own_below (hown2.alloc _) hb3
  go_wp2_with fail
  refine (markFileIn_any _ _ _ _ _ _ _ _ 1 _ (by omega) (by omega) (by omega) hown3).mono ?_
  rintro e w4 ⟨rfl, hown4, hg4⟩
  obtain ⟨hc4, hf4⟩ := gcell hg4
  have hz4 := hg4.size
  have hl41 : w1.heap.size < w4.heap.size := by omega
  have hl42 : w2.heap.size < w4.heap.size := by omega
  have hn1 : w1.heap.size ≠ g2 := by omega
  have hn2 : w2.heap.size ≠ g2 := by omega
  go_wp2_with fail
  refine (heldFileIn_any _ _ _ _ _ _ 1 _ (by omega) (by omega) (by omega) (Rd.of_own hown4)).mono ?_
  rintro e w5 ⟨rfl, hb5⟩
  obtain ⟨hc5, hf5⟩ := bcell hb5
  have hz5 := hb5.size
  have hl51 : w1.heap.size < w5.heap.size := by omega
  have hl52 : w2.heap.size < w5.heap.size := by omega
  have hown5 := own_below hown4 hb5
  go_wp2_with fail
  refine (newFileIn_any f _).mono ?_
  rintro e w6 ⟨g6, rfl, hown6, hb6⟩
  obtain ⟨hc6, hf6⟩ := bcell hb6
  have hz6 := hb6.size
  have hl61 : w1.heap.size < w6.heap.size := by omega
  have hl62 : w2.heap.size < w6.heap.size := by omega
  have hC3 := below_step ((Below.refl _ _).trans hb2) (((Below.refl _ _).alloc (Nat.le_refl _) _).trans (hb3.mono (by simp)))
  have hC4 := hC3.trans (below_of_own hown3 hg4 hC3.size)
  have hC6 := below_step (below_step hC4 hb5) hb6
  have hown6' := own_below hown5 hb6
  go_wp2_with fail
  refine (eqFileIn_same _ _ _ _ _ _ _ _ _ (List.replicate 25 []) _ hl hl (by omega) ((Rd.of_own hown6).alloc _) ((hr1.below hC6).alloc _)).mono ?_
  rintro e w7 ⟨rfl, hb7⟩
  obtain ⟨hc7, hf7⟩ := bcell hb7
  have hz7 := hb7.size
  simp only [World.size_alloc] at hz7
  have hl71 : w1.heap.size < w7.heap.size := by omega
  have hl72 : w2.heap.size < w7.heap.size := by omega
  have hown7 := own_below (hown6'.alloc _) hb7
  go_wp2_with fail
  refine (heldFileIn_any _ _ _ _ _ _ 1 _ (by omega) (by omega) (by omega) (Rd.of_own hown7)).mono ?_
  rintro e w8 ⟨rfl, hb8⟩
  have hC8 := below_step (below_step hC6 (((Below.refl _ _).alloc (Nat.le_refl _) _).trans (hb7.mono (by simp)))) hb8
  have hD := below_step hb1 (((Below.refl _ _).alloc (Nat.le_refl _) _).trans (hC8.mono (by simp)))
  clear hc2 hf2 hc3 hf3 hc4 hf4 hc5 hf5 hc6 hf6 hc7 hf7
  go_wp2
  go_ret
  exact ⟨rfl, hD⟩

/-! ### The row's step, written by a program of ours (frame.py) -/
namespace fnExactNewFileInDone
open Go.ChangeShapes Go.WideShapes Go.ChangeAt
open Go.ChangeMaps (open_string)
theorem own : ownKnob Try.prog.godebug = none := by kernel_rfl
theorem laidOut : laidOutB Try.prog = true := by kernel_rfl
set_option maxRecDepth 100000 in
theorem lifted (os : Os) (started : os.Started) (H : Type) (enc : TypeId × Value → H) :
    ReturnsInHanded {} Try.checked os 9 .any (Rows.fnExactNewFileInSpec.pre6 enc Try.prog Try.f9 Rows.fnExactNewFileInRow.domain false) (Rows.fnExactNewFileInSpec.post enc Try.prog Try.f9 false true false false) := by
  refine returnsInHanded_of_change (C := Try.checked) own started (by kernel_rfl) Try.func9
    (ChangeSpec.witness6 (enc := enc) (C := Try.checked) false ⟨#[], #[.int .i64 0], []⟩ 8 (by kernel_rfl) (by kernel_rfl) (by kernel_rfl) (by kernel_rfl)) ?_
  intro W base args ds gs before hval0 hW hcnd _
  have hval : ∀ (j : Nat) t v, Try.f9.params[j]? = some t → args[j]? = some v → Value.okWide Try.prog W .any base t v := hval0
  have hW' := hW
  obtain ⟨p, q, hA0, hV, rfl, hfz, hnd⟩ := hW
  have hA : DataW.TrodAll enc Try.prog W 0 (fun _ => true) true Try.f9.params.toList args.toList ds p := hA0
  rw [Try.params9] at hA hval
  obtain ⟨v0, vs0, d0, ds0, p0, q0, hargs, rfl, rfl, h0, r0⟩ := trodAll_cons hA
  obtain ⟨rfl, rfl, rfl⟩ := trodAll_nil r0
  obtain rfl : args = #[v0] := by cases args; simp_all
  obtain ⟨rfl, rfl⟩ := trodVars_none hV
  have k0 := h0
  have lt0 : ∀ x ∈ p0, x.block < W.heap.size := by obtain ⟨m, hm⟩ := k0; exact DataW.trod_lt m _ _ _ hm
  obtain ⟨a0, rfl, rfl, rfl, w0⟩ := open_int Try.underlying3 (hval 0 3 v0 rfl rfl) h0
  clear hA0 hval0
  refine (fnExactNewFileIn_walk (w := W) a0 (i64_of_wf w0)).mono fun e W' ⟨he, bel⟩ => ?_
  subst he
  exact ⟨_, rfl, _, _, _, [], _, [], hW', trodAll_mk1 (shut_bool Try.underlying4 _), (trodAll_cons_mk (Below.trod laidOut (by kernel_rfl) (of_decide_eq_true (by kernel_rfl)) k0 bel lt0) trodAll_mk0), rfl, bel.frame _, fun h => by cases h⟩
theorem proved : Rows.FnExactNewFileInSaid :=
  OpenClaim.holds_of_wide 9 Try.f9 rfl rfl rfl rfl rfl rfl rfl ⟨rfl, rfl, rfl, rfl, rfl⟩ rfl rfl rfl rfl rfl (by kernel_rfl) Try.func9 (by kernel_rfl)
    (of_decide_eq_true (by kernel_rfl)) (by unfold Func.isWrapper; first | (rw [if_pos (by decide +kernel)]; kernel_rfl) | (rw [if_neg (by decide +kernel)]; exact ⟨rfl, rfl⟩))
    (fun os started H enc _ => lifted os started H enc)
end fnExactNewFileInDone
end Go.Proofs.Ytimlddibaffjoaa
