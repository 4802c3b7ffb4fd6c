/- For every text the program's DecodeMissing returns what the reference's returns, in memory of its own. No condition. -/
import Derived.Test.YtimlddibaffjoaaMissing
import Derived.Test.YtimlddibaffjoaaInts
namespace Go.Proofs.Ytimlddibaffjoaa
open Go.RowKit

theorem dmL_len (l : List UInt8) : (dmL l).length ≤ l.length := by
  cases h : decMissOk l
  · rw [(dm_no h).2]; exact Nat.zero_le _
  · rw [(dm_yes h).2]; simp

theorem fnExactDecodeMissing_walk (l : List UInt8) (hl : Txt l) (w : World) :
    Calls Try.prog 11 #[.string ⟨l.toArray⟩] w fun e w' => e = .returned (.bool true) ∧ Below w.heap.size w w' := by
  have hl' := hl
  unfold Txt at hl'
  by_cases h20 : 1048576 < (l.length : Int)
  · go_enter Try.func11, Try.ntmps11
    go_wp2_with fail
    go_ret
    exact ⟨rfl, Below.refl _ _⟩
  · have h20' : l.length ≤ 1048576 := by omega
    have hlen := dmL_len l
    have hn : (dmL l).length ≤ 1048576 := by omega
    go_enter Try.func11, Try.ntmps11
    go_wp2_with fail
    refine (sDecodeMissing_any l _ h20').mono ?_
    rintro e w1 ⟨A1, c1, rfl, hown1, hb1⟩
    have hr1 := Rd.of_own hown1
    go_wp2_with fail
    refine (decodeMissing_any l _ hl).mono ?_
    rintro e w2 ⟨A2, c2, rfl, hown2, hb2⟩
    go_wp2_with fail
    refine (eqIntS_any _ _ _ _ _ _ (dmL l) (dmL l) _ rfl rfl (by omega) (by omega) (Rd.of_own hown2) (hr1.below hb2)).mono ?_
    rintro e w3 ⟨rfl, hb3⟩
    have hown3 := own_below hown2 hb3
    have hC3 := below_step hb2 hb3
    go_wp2_with fail
    refine (markIntS_any _ _ _ _ _ 1 _ (by omega) (by omega) (by omega) hown3).mono ?_
    rintro e w4 ⟨rfl, hown4, hg4⟩
    have hC4 := hC3.trans (below_of_own hown3 hg4 hC3.size)
    clear hg4
    go_wp2_with fail
    refine (heldIntS_any _ _ _ 1 _ (by omega) (by omega) (by omega) (Rd.of_own hown4)).mono ?_
    rintro e w5 ⟨rfl, rfl⟩
    go_wp2_with fail
    refine (decodeMissing_any l _ hl).mono ?_
    rintro e w5 ⟨A5, c5, rfl, hown5, hb5⟩
    have hC5 := below_step hC4 hb5
    go_wp2_with fail
    refine (eqIntS_any _ _ _ _ _ _ (dmL l) (dmL l) _ rfl rfl (by omega) (by omega) (Rd.of_own hown5) (hr1.below hC5)).mono ?_
    rintro e w6 ⟨rfl, hb6⟩
    go_wp2_with fail
    refine (heldIntS_any _ _ _ 1 _ (by omega) (by omega) (by omega) ((Rd.of_own (own_below hown4 hb5)).below hb6)).mono ?_
    rintro e w7 ⟨rfl, rfl⟩
    go_wp2
    go_ret
    exact ⟨rfl, below_step hb1 (below_step hC5 hb6)⟩

/-! ### The row's step, written by a program of ours (frame.py) -/
namespace fnExactDecodeMissingDone
open Go.ChangeShapes Go.WideShapes Go.ChangeAt
open Go.ChangeMaps (open_string)
theorem own : ownKnob Try.prog.godebug = none := by kernel_rfl
theorem laidOut : laidOutB Try.prog = true := by kernel_rfl
set_option maxRecDepth 100000 in
theorem lifted (os : Os) (started : os.Started) (H : Type) (enc : TypeId × Value → H) :
    ReturnsInHanded {} Try.checked os 11 .any (Rows.fnExactDecodeMissingSpec.pre6 enc Try.prog Try.f11 Rows.fnExactDecodeMissingRow.domain false) (Rows.fnExactDecodeMissingSpec.post enc Try.prog Try.f11 false true false false) := by
  refine returnsInHanded_of_change (C := Try.checked) own started (by kernel_rfl) Try.func11
    (ChangeSpec.witness6 (enc := enc) (C := Try.checked) false ⟨#[], #[.string .empty], []⟩ 8 (by kernel_rfl) (by kernel_rfl) (by kernel_rfl) (by kernel_rfl)) ?_
  intro W base args ds gs before hval0 hW hcnd _
  have hval : ∀ (j : Nat) t v, Try.f11.params[j]? = some t → args[j]? = some v → Value.okWide Try.prog W .any base t v := hval0
  have hW' := hW
  obtain ⟨p, q, hA0, hV, rfl, hfz, hnd⟩ := hW
  have hA : DataW.TrodAll enc Try.prog W 0 (fun _ => true) true Try.f11.params.toList args.toList ds p := hA0
  rw [Try.params11] at hA hval
  obtain ⟨v0, vs0, d0, ds0, p0, q0, hargs, rfl, rfl, h0, r0⟩ := trodAll_cons hA
  obtain ⟨rfl, rfl, rfl⟩ := trodAll_nil r0
  obtain rfl : args = #[v0] := by cases args; simp_all
  obtain ⟨rfl, rfl⟩ := trodVars_none hV
  have k0 := h0
  have lt0 : ∀ x ∈ p0, x.block < W.heap.size := by obtain ⟨m, hm⟩ := k0; exact DataW.trod_lt m _ _ _ hm
  obtain ⟨s0, rfl, rfl, rfl, w0⟩ := open_string Try.underlying9 (hval 0 9 v0 rfl rfl) h0
  obtain ⟨l0, rfl⟩ : ∃ l : List UInt8, s0 = ⟨l.toArray⟩ := ⟨s0.data.toList, by simp⟩
  clear hA0 hval0
  refine (fnExactDecodeMissing_walk (w := W) l0 (txt_of w0)).mono fun e W' ⟨he, bel⟩ => ?_
  subst he
  exact ⟨_, rfl, _, _, _, [], _, [], hW', trodAll_mk1 (shut_bool Try.underlying4 _), (trodAll_cons_mk (Below.trod laidOut (by kernel_rfl) (of_decide_eq_true (by kernel_rfl)) k0 bel lt0) trodAll_mk0), rfl, bel.frame _, fun h => by cases h⟩
theorem proved : Rows.FnExactDecodeMissingSaid :=
  OpenClaim.holds_of_wide 11 Try.f11 rfl rfl rfl rfl rfl rfl rfl ⟨rfl, rfl, rfl, rfl, rfl⟩ rfl rfl rfl rfl rfl (by kernel_rfl) Try.func11 (by kernel_rfl)
    (of_decide_eq_true (by kernel_rfl)) (by unfold Func.isWrapper; first | (rw [if_pos (by decide +kernel)]; kernel_rfl) | (rw [if_neg (by decide +kernel)]; exact ⟨rfl, rfl⟩))
    (fun os started H enc _ => lifted os started H enc)
end fnExactDecodeMissingDone
end Go.Proofs.Ytimlddibaffjoaa
