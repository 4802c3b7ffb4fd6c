/- For every number and every list the program's EncodeMissing returns what the reference's returns, and leaves the list as it was. No condition. -/
import Derived.Test.YtimlddibaffjoaaMissing
import Derived.Test.YtimlddibaffjoaaInts
namespace Go.Proofs.Ytimlddibaffjoaa
open Go.RowKit

theorem fnExactEncodeMissing_walk {w : World} (f : Int) (_hf : I64 f) (A : Option Addr) (n c : Nat) (zs : List Int) (hn : zs.length = n) (_hnc : n ≤ c) (hcm : c ≤ maxLen) (hr : Rd w 1 A n (zs.flatMap cI)) (_hwf : ∀ r ∈ zs, I64 r) :
    Calls Try.prog 10 #[.int .i64 f, .slice A n c] w fun e w' => e = .returned (.bool true) ∧ Below w.heap.size w w' := by
  unfold maxLen at hcm
  subst hn
  have hn1 : zs.length ≤ 9223372036854775807 := by omega
  by_cases h20 : 1048576 < (zs.length : Int)
  · go_enter Try.func10, Try.ntmps10
    go_wp2_with fail
    go_ret
    exact ⟨rfl, Below.refl _ _⟩
  · have h20' : zs.length ≤ 1048576 := by omega
    go_enter Try.func10, Try.ntmps10
    go_wp2_with fail
    refine (toIntS_any _ _ _ zs _ rfl h20' hr).mono ?_
    rintro e w1 ⟨g1, rfl, hown1, hb1⟩
    have hr1 := hr.below hb1
    go_wp2_with fail
    refine (sEncodeMissing_any _ _ _ _ zs _ rfl hn1 (Rd.of_own hown1)).mono ?_
    rintro e w2 ⟨rfl, hb2⟩
    have hr2 := hr1.below hb2
    go_wp2_with fail
    refine (toIntS_any _ _ _ zs _ rfl h20' hr2).mono ?_
    rintro e w3 ⟨g3, rfl, hown3, hb3⟩
    have hr3 := hr2.below hb3
    go_wp2_with fail
    refine (encodeMissing_any _ _ _ _ zs _ rfl hn1 (Rd.of_own hown3)).mono ?_
    rintro e w4 ⟨rfl, hb4⟩
    have hr4 := hr3.below hb4
    have hown4 := own_below hown3 hb4
    go_wp2_with fail
    refine (toIntS_any _ _ _ zs _ rfl h20' hr4).mono ?_
    rintro e w5 ⟨g5, rfl, hown5, hb5⟩
    have hown5' := own_below hown4 hb5
    go_wp2_with fail
    refine (eqIntS_any _ _ _ _ _ _ zs zs _ rfl rfl (by omega) (by omega) (Rd.of_own hown5') (Rd.of_own hown5)).mono ?_
    rintro e w6 ⟨rfl, hb6⟩
    go_wp2
    go_ret
    exact ⟨rfl, (below_step (below_step (below_step (below_step (below_step hb1 hb2) hb3) hb4) hb5) hb6)⟩

/-! ### The row's step, written by a program of ours (frame.py) -/
namespace fnExactEncodeMissingDone
open Go.ChangeShapes Go.WideShapes Go.ChangeAt
open Go.ChangeMaps (open_string)
theorem own : ownKnob Try.prog.godebug = none := by kernel_rfl
theorem laidOut : laidOutB Try.prog = true := by kernel_rfl
set_option maxRecDepth 100000 in
theorem lifted (os : Os) (started : os.Started) (H : Type) (enc : TypeId × Value → H) :
    ReturnsInHanded {} Try.checked os 10 .any (Rows.fnExactEncodeMissingSpec.pre6 enc Try.prog Try.f10 Rows.fnExactEncodeMissingRow.domain false) (Rows.fnExactEncodeMissingSpec.post enc Try.prog Try.f10 false true false false) := by
  refine returnsInHanded_of_change (C := Try.checked) own started (by kernel_rfl) Try.func10
    (ChangeSpec.witness6 (enc := enc) (C := Try.checked) false ⟨#[], #[.int .i64 0, .slice none 0 0], []⟩ 8 (by kernel_rfl) (by kernel_rfl) (by kernel_rfl) (by kernel_rfl)) ?_
  intro W base args ds gs before hval0 hW hcnd _
  have hval : ∀ (j : Nat) t v, Try.f10.params[j]? = some t → args[j]? = some v → Value.okWide Try.prog W .any base t v := hval0
  have hW' := hW
  obtain ⟨p, q, hA0, hV, rfl, hfz, hnd⟩ := hW
  have hA : DataW.TrodAll enc Try.prog W 0 (fun _ => true) true Try.f10.params.toList args.toList ds p := hA0
  rw [Try.params10] at hA hval
  obtain ⟨v0, vs0, d0, ds0, p0, q0, hargs, rfl, rfl, h0, r0⟩ := trodAll_cons hA
  obtain ⟨v1, vs1, d1, ds1, p1, q1, rfl, rfl, rfl, h1, r1⟩ := trodAll_cons r0
  obtain ⟨rfl, rfl, rfl⟩ := trodAll_nil r1
  obtain rfl : args = #[v0, v1] := by cases args; simp_all
  obtain ⟨rfl, rfl⟩ := trodVars_none hV
  have k0 := h0
  have lt0 : ∀ x ∈ p0, x.block < W.heap.size := by obtain ⟨m, hm⟩ := k0; exact DataW.trod_lt m _ _ _ hm
  have k1 := h1
  have lt1 : ∀ x ∈ p1, x.block < W.heap.size := by obtain ⟨m, hm⟩ := k1; exact DataW.trod_lt m _ _ _ hm
  obtain ⟨a0, rfl, rfl, rfl, w0⟩ := open_int Try.underlying3 (hval 0 3 v0 rfl rfl) h0
  obtain ⟨A1, n1, c1, rs1, hv1, hlen1, hnc1, hcm1, hrd1, hwf1⟩ := open_slice_of cI I64 1 cI_len Try.underlying41 (by kernel_rfl) (by decide) (fun _ _ _ hh => el_int Try.underlying3 hh) h1.choose_spec
  obtain ⟨_, _, _, rfl⟩ := okWide_slice Try.underlying41 (hval 1 41 v1 rfl rfl)
  simp only [Value.cells, List.cons.injEq, Value.slice.injEq, and_true] at hv1
  obtain ⟨rfl, rfl, rfl⟩ := hv1
  clear hA0 hval0
  refine (fnExactEncodeMissing_walk (w := W) a0 (i64_of_wf w0) _ _ _ rs1 hlen1 hnc1 hcm1 hrd1 hwf1).mono fun e W' ⟨he, bel⟩ => ?_
  subst he
  exact ⟨_, rfl, _, _, _, [], _, [], hW', trodAll_mk1 (shut_bool Try.underlying4 _), (trodAll_cons_mk (Below.trod laidOut (by kernel_rfl) (of_decide_eq_true (by kernel_rfl)) k0 bel lt0) (trodAll_cons_mk (Below.trod laidOut (by kernel_rfl) (of_decide_eq_true (by kernel_rfl)) k1 bel lt1) trodAll_mk0)), rfl, bel.frame _, fun h => by cases h⟩
theorem proved : Rows.FnExactEncodeMissingSaid :=
  OpenClaim.holds_of_wide 10 Try.f10 rfl rfl rfl rfl rfl rfl rfl ⟨rfl, rfl, rfl, rfl, rfl⟩ rfl rfl rfl rfl rfl (by kernel_rfl) Try.func10 (by kernel_rfl)
    (of_decide_eq_true (by kernel_rfl)) (by unfold Func.isWrapper; first | (rw [if_pos (by decide +kernel)]; kernel_rfl) | (rw [if_neg (by decide +kernel)]; exact ⟨rfl, rfl⟩))
    (fun os started H enc _ => lifted os started H enc)
end fnExactEncodeMissingDone
end Go.Proofs.Ytimlddibaffjoaa
