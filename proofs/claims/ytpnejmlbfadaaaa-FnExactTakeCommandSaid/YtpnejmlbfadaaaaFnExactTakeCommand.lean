/- For every receiver and every text the program's TakeCommand returns what the reference's returns. No condition. -/
import Derived.Test.YtpnejmlbfadaaaaTake
import Derived.Test.YtpnejmlbfadaaaaRecvArg
namespace Go.Proofs.Ytpnejmlbfadaaaa
open Go.RowKit

theorem tkV_recv (e : Int) (lk ag : Bool) (tk : Int) (ok : Bool) (k n : Int) (d : List UInt8) :
    ∃ e' lk' ag' tk' d' t, tkV e lk ag tk ok k n d = recvV e' lk' ag' tk' d' t := by
  unfold tkV
  repeat' split
  all_goals exact ⟨_, _, _, _, _, _, rfl⟩

theorem fnExactTakeCommand_walk {w : World} (a : Int) (b c : Bool) (d : Int) (_ : I64 a) (_ : I64 d) (l : List UInt8) (hl : Txt l) :
    Calls Try.prog 14 #[.agg #[.int .i64 a, .bool b, .bool c, .int .i64 d], .string ⟨l.toArray⟩] w fun e w' => e = .returned (.bool true) ∧ Below w.heap.size w w' := by
  have hlen : l.length ≤ 9223372036854775807 := hl
  by_cases hbig : 1048576 < (l.length : Int)
  · go_enter Try.func14, Try.ntmps14
    go_wp2
    go_ret
    exact ⟨rfl, (Below.refl _ _).alloc (Nat.le_refl _) _⟩
  · obtain ⟨e', lk', ag', tk', d', t, he⟩ := tkV_recv a b c d (dcOk l) (dcK l) (dcN l) (dcD l)
    have hI := fun w => takeCommand_any a b c d l w hl
    have hS := fun w => sTakeCommand_any a b c d l w hl
    rw [he] at hI hS
    unfold recvV at hI hS
    go_enter Try.func14, Try.ntmps14
    go_wp2_with fail
    refine (toReceiver_any _ _ _ _ _).mono ?_
    rintro e w1 ⟨rfl, hb1⟩
    obtain ⟨hc1, hf1⟩ := bcell hb1
    have hz1 := hb1.size
    simp only [World.size_alloc] at hz1
    have hB1 := ((Below.refl _ _).alloc (Nat.le_refl _) _).trans (hb1.mono (by simp))
    go_wp2_with fail
    refine (hS _).mono ?_
    rintro e w2 ⟨rfl, hb2⟩
    obtain ⟨hc2, hf2⟩ := bcell hb2
    have hz2 := hb2.size
    have hB2 := below_step hB1 hb2
    have hl1 : w.heap.size < w1.heap.size := by omega
    have hl2 : w.heap.size < w2.heap.size := by omega
    go_wp2_with fail
    refine (toReceiver_any _ _ _ _ _).mono ?_
    rintro e w3 ⟨rfl, hb3⟩
    obtain ⟨hc3, hf3⟩ := bcell hb3
    have hz3 := hb3.size
    simp only [World.size_alloc] at hz3
    have hB3 := below_step hB2 (((Below.refl _ _).alloc (Nat.le_refl _) _).trans (hb3.mono (by simp)))
    have hl3 : w.heap.size < w3.heap.size := by omega
    have hl23 : w2.heap.size < w3.heap.size := by omega
    go_wp2_with fail
    refine (hI _).mono ?_
    rintro e w4 ⟨rfl, hb4⟩
    obtain ⟨hc4, hf4⟩ := bcell hb4
    have hz4 := hb4.size
    have hB4 := below_step hB3 hb4
    have hl4 : w.heap.size < w4.heap.size := by omega
    have hl24 : w2.heap.size < w4.heap.size := by omega
    go_wp2_with fail
    refine (eqReceiver_same _ _ _ _ _).mono ?_
    rintro e w5 ⟨rfl, hb5⟩
    have hB5 := below_step hB4 (((Below.refl _ _).alloc (Nat.le_refl _) _).trans (hb5.mono (by simp)))
    go_wp2
    go_ret
    exact ⟨rfl, hB5⟩

/-! ### The row's step, written by a program of ours (frame.py) -/
namespace fnExactTakeCommandDone
open Go.ChangeShapes Go.WideShapes Go.ChangeAt
open Go.ChangeMaps (open_string)
theorem own : ownKnob Try.prog.godebug = none := by kernel_rfl
theorem laidOut : laidOutB Try.prog = true := by kernel_rfl
set_option maxRecDepth 100000 in
theorem lifted (os : Os) (started : os.Started) (H : Type) (enc : TypeId × Value → H) :
    ReturnsInHanded {} Try.checked os 14 .any (Rows.fnExactTakeCommandSpec.pre6 enc Try.prog Try.f14 Rows.fnExactTakeCommandRow.domain false) (Rows.fnExactTakeCommandSpec.post enc Try.prog Try.f14 false true false false) := by
  refine returnsInHanded_of_change (C := Try.checked) own started (by kernel_rfl) Try.func14
    (ChangeSpec.witness6 (enc := enc) (C := Try.checked) false ⟨#[], #[.agg #[.int .i64 0, .bool false, .bool false, .int .i64 0], .string .empty], []⟩ 8 (by kernel_rfl) (by kernel_rfl) (by kernel_rfl) (by kernel_rfl)) ?_
  intro W base args ds gs before hval0 hW hcnd _
  have hval : ∀ (j : Nat) t v, Try.f14.params[j]? = some t → args[j]? = some v → Value.okWide Try.prog W .any base t v := hval0
  have hW' := hW
  obtain ⟨p, q, hA0, hV, rfl, hfz, hnd⟩ := hW
  have hA : DataW.TrodAll enc Try.prog W 0 (fun _ => true) true Try.f14.params.toList args.toList ds p := hA0
  rw [Try.params14] at hA hval
  obtain ⟨v0, vs0, d0, ds0, p0, q0, hargs, rfl, rfl, h0, r0⟩ := trodAll_cons hA
  obtain ⟨v1, vs1, d1, ds1, p1, q1, rfl, rfl, rfl, h1, r1⟩ := trodAll_cons r0
  obtain ⟨rfl, rfl, rfl⟩ := trodAll_nil r1
  obtain rfl : args = #[v0, v1] := by cases args; simp_all
  obtain ⟨rfl, rfl⟩ := trodVars_none hV
  have k0 := h0
  have lt0 : ∀ x ∈ p0, x.block < W.heap.size := by obtain ⟨m, hm⟩ := k0; exact DataW.trod_lt m _ _ _ hm
  have k1 := h1
  have lt1 : ∀ x ∈ p1, x.block < W.heap.size := by obtain ⟨m, hm⟩ := k1; exact DataW.trod_lt m _ _ _ hm
  obtain ⟨cs0, rfl, _⟩ := okWide_struct Try.underlying23 (hval 0 23 v0 rfl rfl)
  obtain ⟨fuel0, hf0⟩ := h0
  obtain ⟨x0a, x0b, x0c, x0d, hcs0, hxa0, hxd0⟩ := open_Receiver hf0
  obtain ⟨cs0⟩ := cs0
  simp only [Value.cells] at hcs0
  subst hcs0
  obtain ⟨s1, rfl, rfl, rfl, w1⟩ := open_string Try.underlying9 (hval 1 9 v1 rfl rfl) h1
  obtain ⟨l1, rfl⟩ : ∃ l : List UInt8, s1 = ⟨l.toArray⟩ := ⟨s1.data.toList, by simp⟩
  clear hA0 hval0
  refine (fnExactTakeCommand_walk (w := W) x0a x0b x0c x0d hxa0 hxd0 l1 (txt_of w1)).mono fun e W' ⟨he, bel⟩ => ?_
  subst he
  exact ⟨_, rfl, _, _, _, [], _, [], hW', trodAll_mk1 (shut_bool Try.underlying4 _), (trodAll_cons_mk (Below.trod laidOut (by kernel_rfl) (of_decide_eq_true (by kernel_rfl)) k0 bel lt0) (trodAll_cons_mk (Below.trod laidOut (by kernel_rfl) (of_decide_eq_true (by kernel_rfl)) k1 bel lt1) trodAll_mk0)), rfl, bel.frame _, fun h => by cases h⟩
theorem proved : Rows.FnExactTakeCommandSaid :=
  OpenClaim.holds_of_wide 14 Try.f14 rfl rfl rfl rfl rfl rfl rfl ⟨rfl, rfl, rfl, rfl, rfl⟩ rfl rfl rfl rfl rfl (by kernel_rfl) Try.func14 (by kernel_rfl)
    (of_decide_eq_true (by kernel_rfl)) (by unfold Func.isWrapper; first | (rw [if_pos (by decide +kernel)]; kernel_rfl) | (rw [if_neg (by decide +kernel)]; exact ⟨rfl, rfl⟩))
    (fun os started H enc _ => lifted os started H enc)
end fnExactTakeCommandDone
end Go.Proofs.Ytpnejmlbfadaaaa
