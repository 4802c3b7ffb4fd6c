/- For every record the program's EncodeRecord returns what the reference's returns. No condition. -/
import Derived.Test.YtnjopeonmenopaaRecCode
import Derived.Test.YtnjopeonmenopaaRecordArg
namespace Go.Proofs.Ytnjopeonmenopaa
open Go.RowKit

theorem fnExactEncodeRecord_walk {w : World} (a p t : Int) (d : List UInt8) (_ : I64 a) (_ : I64 p) (_ : I64 t) (hd : Txt d) :
    Calls Try.prog 5 #[.agg #[.int .i64 a, .int .i64 p, .int .i64 t, .string ⟨d.toArray⟩]] w fun e w' => e = .returned (.bool true) ∧ Below w.heap.size w w' := by
  go_enter Try.func5, Try.ntmps5
  go_wp2_with fail
  refine (szRecord_any _ _ _ _ _ _ hd (by decide) (by decide)).mono ?_
  rintro e w0 ⟨q, rfl, hq0, hq1, hq2, hb0⟩
  obtain ⟨hc0, hf0⟩ := bcell hb0
  have hz0 := hb0.size
  simp only [World.size_alloc] at hz0
  have hB0 := ((Below.refl _ _).alloc (Nat.le_refl _) _).trans (hb0.mono (by simp))
  have hl0 : w.heap.size < w0.heap.size := by omega
  by_cases hq : q < 0
  · go_wp2
    go_ret
    exact ⟨rfl, hB0⟩
  go_wp2_with fail
  refine (toRecord_any _ _ _ _ _).mono ?_
  rintro e w1 ⟨rfl, hb1⟩
  obtain ⟨hc1, hf1⟩ := bcell hb1
  have hz1 := hb1.size
  have hB1 := below_step hB0 hb1
  have hl1 : w.heap.size < w1.heap.size := by omega
  go_wp2_with fail
  refine (sEncodeRecord_any _ _ _ _ _ hd).mono ?_
  rintro e w2 ⟨rfl, hb2⟩
  obtain ⟨hc2, hf2⟩ := bcell hb2
  have hz2 := hb2.size
  have hB2 := below_step hB1 hb2
  have hl2 : w.heap.size < w2.heap.size := by omega
  go_wp2_with fail
  refine (toRecord_any _ _ _ _ _).mono ?_
  rintro e w3 ⟨rfl, hb3⟩
  have hB3 := below_step hB2 hb3
  go_wp2_with fail
  refine (encodeRecord_any _ _ _ _ _ hd).mono ?_
  rintro e w4 ⟨rfl, hb4⟩
  have hB4 := below_step hB3 hb4
  go_wp2
  go_ret
  exact ⟨rfl, hB4⟩

/-! ### The row's step, written by a program of ours (frame.py) -/
namespace fnExactEncodeRecordDone
open Go.ChangeShapes Go.WideShapes Go.ChangeAt
open Go.ChangeMaps (open_string)
theorem own : ownKnob Try.prog.godebug = none := by kernel_rfl
theorem laidOut : laidOutB Try.prog = true := by kernel_rfl
set_option maxRecDepth 100000 in
theorem lifted (os : Os) (started : os.Started) (H : Type) (enc : TypeId × Value → H) :
    ReturnsInHanded {} Try.checked os 5 .any (Rows.fnExactEncodeRecordSpec.pre6 enc Try.prog Try.f5 Rows.fnExactEncodeRecordRow.domain false) (Rows.fnExactEncodeRecordSpec.post enc Try.prog Try.f5 false true false false) := by
  refine returnsInHanded_of_change (C := Try.checked) own started (by kernel_rfl) Try.func5
    (ChangeSpec.witness6 (enc := enc) (C := Try.checked) false ⟨#[], #[.agg #[.int .i64 0, .int .i64 0, .int .i64 0, .string .empty]], []⟩ 8 (by kernel_rfl) (by kernel_rfl) (by kernel_rfl) (by kernel_rfl)) ?_
  intro W base args ds gs before hval0 hW hcnd _
  have hval : ∀ (j : Nat) t v, Try.f5.params[j]? = some t → args[j]? = some v → Value.okWide Try.prog W .any base t v := hval0
  have hW' := hW
  obtain ⟨p, q, hA0, hV, rfl, hfz, hnd⟩ := hW
  have hA : DataW.TrodAll enc Try.prog W 0 (fun _ => true) true Try.f5.params.toList args.toList ds p := hA0
  rw [Try.params5] at hA hval
  obtain ⟨v0, vs0, d0, ds0, p0, q0, hargs, rfl, rfl, h0, r0⟩ := trodAll_cons hA
  obtain ⟨rfl, rfl, rfl⟩ := trodAll_nil r0
  obtain rfl : args = #[v0] := by cases args; simp_all
  obtain ⟨rfl, rfl⟩ := trodVars_none hV
  have k0 := h0
  have lt0 : ∀ x ∈ p0, x.block < W.heap.size := by obtain ⟨m, hm⟩ := k0; exact DataW.trod_lt m _ _ _ hm
  obtain ⟨cs0, rfl, _⟩ := okWide_struct Try.underlying23 (hval 0 23 v0 rfl rfl)
  obtain ⟨fuel0, hf0⟩ := h0
  obtain ⟨x0a, x0b, x0c, x0d, hcs0, hx0a, hx0b, hx0c, hx0d⟩ := open_Record hf0
  obtain ⟨cs0⟩ := cs0
  simp only [Value.cells] at hcs0
  subst hcs0
  clear hA0 hval0
  refine (fnExactEncodeRecord_walk (w := W) x0a x0b x0c x0d hx0a hx0b hx0c hx0d).mono fun e W' ⟨he, bel⟩ => ?_
  subst he
  exact ⟨_, rfl, _, _, _, [], _, [], hW', trodAll_mk1 (shut_bool Try.underlying4 _), (trodAll_cons_mk (Below.trod laidOut (by kernel_rfl) (of_decide_eq_true (by kernel_rfl)) k0 bel lt0) trodAll_mk0), rfl, bel.frame _, fun h => by cases h⟩
theorem proved : Rows.FnExactEncodeRecordSaid :=
  OpenClaim.holds_of_wide 5 Try.f5 rfl rfl rfl rfl rfl rfl rfl ⟨rfl, rfl, rfl, rfl, rfl⟩ rfl rfl rfl rfl rfl (by kernel_rfl) Try.func5 (by kernel_rfl)
    (of_decide_eq_true (by kernel_rfl)) (by unfold Func.isWrapper; first | (rw [if_pos (by decide +kernel)]; kernel_rfl) | (rw [if_neg (by decide +kernel)]; exact ⟨rfl, rfl⟩))
    (fun os started H enc _ => lifted os started H enc)
end fnExactEncodeRecordDone
end Go.Proofs.Ytnjopeonmenopaa
