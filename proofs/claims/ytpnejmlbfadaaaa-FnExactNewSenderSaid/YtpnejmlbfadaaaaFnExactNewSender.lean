/- For every number the program's NewSender returns what the reference's returns, in memory of its own. No condition. -/
import Derived.Test.YtpnejmlbfadaaaaSndNew
import Derived.Test.YtpnejmlbfadaaaaSndArg
namespace Go.Proofs.Ytpnejmlbfadaaaa
open Go.RowKit

theorem fnExactNewSender_walk {w : World} (a : Int) (_ha : I64 a) :
    Calls Try.prog 12 #[.int .i64 a] w fun e w' => e = .returned (.bool true) ∧ Below w.heap.size w w' := by
  have hI := fun w => newSender_any a w
  have hS := fun w => sNewSender_any a w
  unfold newV at hI hS
  generalize inB a 1 20 = ok at *
  generalize (if ok = true then a else 0) = v at *
  have hno : ∀ (W : World) (base : Nat), W.ownsRow base 80 2 (.slice none 0 0) 0 [] := fun W base => ⟨rfl, Or.inl ⟨rfl, rfl⟩⟩
  have hmk : ∀ W : World, Calls Try.prog 49 #[.agg #[.int .i64 0, .int .i64 v, .slice none 0 0, .int .i64 0], .int .i64 1] W fun e w' => e = .returned (.int .i64 1) ∧ Below W.heap.size W w' := fun W =>
    (markSender_any W.heap.size 0 v 0 none 0 0 [] 1 W (by decide) (by decide) (by omega) (Nat.le_refl _) (hno _ _)).mono fun e w' h => ⟨by simpa using h.1, h.2.2.1⟩
  have hhd : ∀ W : World, Calls Try.prog 50 #[.agg #[.int .i64 0, .int .i64 v, .slice none 0 0, .int .i64 0], .int .i64 1] W fun e w' => e = .returned (.int .i64 1) ∧ Below W.heap.size W w' := fun W =>
    (heldSender_any 0 v 0 none 0 0 1 W (by decide) (by decide) (by omega) Rd.nil_).mono fun e w' h => ⟨by simpa using h.1, h.2⟩
  have heq : ∀ W : World, Calls Try.prog 47 #[.agg #[.int .i64 0, .int .i64 v, .slice none 0 0, .int .i64 0], .agg #[.int .i64 0, .int .i64 v, .slice none 0 0, .int .i64 0]] W fun e w' => e = .returned (.bool true) ∧ Below W.heap.size W w' := fun W =>
    eqSender_same 0 v 0 none none 0 0 0 0 [] W rfl rfl (by omega) Rd.nil_ Rd.nil_
  clear hno
  go_enter Try.func12, Try.ntmps12
  go_wp2_with fail
  refine (hS _).mono ?_
  rintro e w1 ⟨rfl, hb1⟩
  obtain ⟨hc1, hf1⟩ := bcell hb1
  have hz1 := hb1.size
  go_wp2_with fail
  refine (hI _).mono ?_
  rintro e w2 ⟨rfl, hb2⟩
  obtain ⟨hc2, hf2⟩ := bcell hb2
  have hz2 := hb2.size
  simp only [World.size_alloc] at hz2
  have hB2 := below_step hb1 (((Below.refl _ _).alloc (Nat.le_refl _) _).trans (hb2.mono (by simp)))
  have q2 : w1.heap.size < w2.heap.size := by omega
  go_wp2_with fail
  refine (heq _).mono ?_
  rintro e w3 ⟨rfl, hb3⟩
  obtain ⟨hc3, hf3⟩ := bcell hb3
  have hz3 := hb3.size
  simp only [World.size_alloc] at hz3
  have hB3 := below_step hB2 (((Below.refl _ _).alloc (Nat.le_refl _) _).trans (hb3.mono (by simp)))
  have q3 : w1.heap.size < w3.heap.size := by omega
  have r3 : w2.heap.size < w3.heap.size := by omega
  go_wp2_with fail
  refine (hmk _).mono ?_
  rintro e w4 ⟨rfl, hb4⟩
  obtain ⟨hc4, hf4⟩ := bcell hb4
  have hz4 := hb4.size
  have hB4 := below_step hB3 hb4
  have q4 : w1.heap.size < w4.heap.size := by omega
  have r4 : w2.heap.size < w4.heap.size := by omega
  go_wp2_with fail
  refine (hhd _).mono ?_
  rintro e w5 ⟨rfl, hb5⟩
  obtain ⟨hc5, hf5⟩ := bcell hb5
  have hz5 := hb5.size
  have hB5 := below_step hB4 hb5
  have q5 : w1.heap.size < w5.heap.size := by omega
  have r5 : w2.heap.size < w5.heap.size := by omega
  go_wp2_with fail
  refine (hI _).mono ?_
  rintro e w6 ⟨rfl, hb6⟩
  obtain ⟨hc6, hf6⟩ := bcell hb6
  have hz6 := hb6.size
  have hB6 := below_step hB5 hb6
  have q6 : w1.heap.size < w6.heap.size := by omega
  have r6 : w2.heap.size < w6.heap.size := by omega
  go_wp2_with fail
  refine (heq _).mono ?_
  rintro e w7 ⟨rfl, hb7⟩
  obtain ⟨hc7, hf7⟩ := bcell hb7
  have hz7 := hb7.size
  simp only [World.size_alloc] at hz7
  have hB7 := below_step hB6 (((Below.refl _ _).alloc (Nat.le_refl _) _).trans (hb7.mono (by simp)))
  have q7 : w1.heap.size < w7.heap.size := by omega
  have r7 : w2.heap.size < w7.heap.size := by omega
  go_wp2_with fail
  refine (hhd _).mono ?_
  rintro e w8 ⟨rfl, hb8⟩
  have hB8 := below_step hB7 hb8
  go_wp2
  go_ret
  exact ⟨rfl, hB8⟩

/-! ### The row's step, written by a program of ours (frame.py) -/
namespace fnExactNewSenderDone
open Go.ChangeShapes Go.WideShapes Go.ChangeAt
open Go.ChangeMaps (open_string)
theorem own : ownKnob Try.prog.godebug = none := by kernel_rfl
theorem laidOut : laidOutB Try.prog = true := by kernel_rfl
set_option maxRecDepth 100000 in
theorem lifted (os : Os) (started : os.Started) (H : Type) (enc : TypeId × Value → H) :
    ReturnsInHanded {} Try.checked os 12 .any (Rows.fnExactNewSenderSpec.pre6 enc Try.prog Try.f12 Rows.fnExactNewSenderRow.domain false) (Rows.fnExactNewSenderSpec.post enc Try.prog Try.f12 false true false false) := by
  refine returnsInHanded_of_change (C := Try.checked) own started (by kernel_rfl) Try.func12
    (ChangeSpec.witness6 (enc := enc) (C := Try.checked) false ⟨#[], #[.int .i64 0], []⟩ 8 (by kernel_rfl) (by kernel_rfl) (by kernel_rfl) (by kernel_rfl)) ?_
  intro W base args ds gs before hval0 hW hcnd _
  have hval : ∀ (j : Nat) t v, Try.f12.params[j]? = some t → args[j]? = some v → Value.okWide Try.prog W .any base t v := hval0
  have hW' := hW
  obtain ⟨p, q, hA0, hV, rfl, hfz, hnd⟩ := hW
  have hA : DataW.TrodAll enc Try.prog W 0 (fun _ => true) true Try.f12.params.toList args.toList ds p := hA0
  rw [Try.params12] at hA hval
  obtain ⟨v0, vs0, d0, ds0, p0, q0, hargs, rfl, rfl, h0, r0⟩ := trodAll_cons hA
  obtain ⟨rfl, rfl, rfl⟩ := trodAll_nil r0
  obtain rfl : args = #[v0] := by cases args; simp_all
  obtain ⟨rfl, rfl⟩ := trodVars_none hV
  have k0 := h0
  have lt0 : ∀ x ∈ p0, x.block < W.heap.size := by obtain ⟨m, hm⟩ := k0; exact DataW.trod_lt m _ _ _ hm
  obtain ⟨a0, rfl, rfl, rfl, w0⟩ := open_int Try.underlying3 (hval 0 3 v0 rfl rfl) h0
  clear hA0 hval0
  refine (fnExactNewSender_walk (w := W) a0 (i64_of_wf w0)).mono fun e W' ⟨he, bel⟩ => ?_
  subst he
  exact ⟨_, rfl, _, _, _, [], _, [], hW', trodAll_mk1 (shut_bool Try.underlying4 _), (trodAll_cons_mk (Below.trod laidOut (by kernel_rfl) (of_decide_eq_true (by kernel_rfl)) k0 bel lt0) trodAll_mk0), rfl, bel.frame _, fun h => by cases h⟩
theorem proved : Rows.FnExactNewSenderSaid :=
  OpenClaim.holds_of_wide 12 Try.f12 rfl rfl rfl rfl rfl rfl rfl ⟨rfl, rfl, rfl, rfl, rfl⟩ rfl rfl rfl rfl rfl (by kernel_rfl) Try.func12 (by kernel_rfl)
    (of_decide_eq_true (by kernel_rfl)) (by unfold Func.isWrapper; first | (rw [if_pos (by decide +kernel)]; kernel_rfl) | (rw [if_neg (by decide +kernel)]; exact ⟨rfl, rfl⟩))
    (fun os started H enc _ => lifted os started H enc)
end fnExactNewSenderDone
end Go.Proofs.Ytpnejmlbfadaaaa
