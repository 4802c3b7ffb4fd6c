/- For every sender of commands the program's SenderOk returns what the reference's returns, and leaves it as it was. No condition. -/
import Derived.Test.YtpnejmlbfadaaaaSndOk
import Derived.Test.YtpnejmlbfadaaaaSndArg
namespace Go.Proofs.Ytpnejmlbfadaaaa
open Go.RowKit

theorem fnExactSenderOk_walk {w : World} (a b d : Int) (A : Option Addr) (n cp : Nat) (zs : List ESent) (_ha : I64 a) (_hb : I64 b) (_hd : I64 d) (hn : zs.length = n) (_hnc : n ≤ cp) (hcm : cp ≤ maxLen) (hr : Rd w 2 A n (zs.flatMap cSent)) (hwf : ∀ r ∈ zs, wfSent r) :
    Calls Try.prog 11 #[.agg #[.int .i64 a, .int .i64 b, .slice A n cp, .int .i64 d]] w fun e w' => e = .returned (.bool true) ∧ Below w.heap.size w w' := by
  unfold maxLen at hcm
  have hT : ∀ z ∈ zs, Txt z.f1 := fun z hz => (hwf z hz).2
  go_enter Try.func11, Try.ntmps11
  go_wp2_with fail
  refine (szSender_any _ _ _ _ _ _ zs _ _ hn (by omega) (by omega) (by omega) hT (hr.alloc _)).mono ?_
  rintro e w1 ⟨q, rfl, hq0, hq1, hq2, hb1⟩
  obtain ⟨hc1, hf1⟩ := bcell hb1
  have hz1 := hb1.size
  simp only [World.size_alloc] at hz1
  have hr1 := (hr.alloc _).below hb1
  have hB1 := ((Below.refl _ _).alloc (Nat.le_refl _) _).trans (hb1.mono (by simp))
  by_cases hq : q < 0
  · go_wp2
    go_ret
    exact ⟨rfl, hB1⟩
  · have hn' : n ≤ 1048576 := by have := hq2 (by omega); omega
    go_wp2_with fail
    refine (toSender_any _ _ _ _ _ _ zs _ hn hn' hr1).mono ?_
    rintro e w2 ⟨g2, rfl, hown2, hb2⟩
    obtain ⟨hc2, hf2⟩ := bcell hb2
    have hz2 := hb2.size
    have hl1 : w.heap.size < w1.heap.size := by omega
    go_wp2_with fail
    refine (sSenderOk_any _ _ _ _ _ zs _ _ hn (by omega) hT (Rd.of_own hown2)).mono ?_
    rintro e w3 ⟨rfl, hb3⟩
    obtain ⟨hc3, hf3⟩ := bcell hb3
    have hz3 := hb3.size
    have hl2 : w.heap.size < w2.heap.size := by omega
    have hr3 := (hr1.below hb2).below hb3
    go_wp2_with fail
    refine (toSender_any _ _ _ _ _ _ zs _ hn hn' hr3).mono ?_
    rintro e w4 ⟨g4, rfl, hown4, hb4⟩
    obtain ⟨hc4, hf4⟩ := bcell hb4
    have hz4 := hb4.size
    have hl3 : w.heap.size < w3.heap.size := by omega
    have hr4 := hr3.below hb4
    go_wp2_with fail
    refine (senderOk_any _ _ _ _ _ zs _ _ hn (by omega) hT ((Rd.of_own hown4).alloc _)).mono ?_
    rintro e w5 ⟨rfl, hb5⟩
    obtain ⟨hc5, hf5⟩ := bcell hb5
    have hz5 := hb5.size
    simp only [World.size_alloc] at hz5
    have hl4 : w.heap.size < w4.heap.size := by omega
    have hl5 : w.heap.size < w5.heap.size := by omega
    have hl45 : w4.heap.size < w5.heap.size := by omega
    have hr5 := (hr4.alloc _).below hb5
    have hx5 := ((Rd.of_own hown4).alloc _).below hb5
    go_wp2_with fail
    have HK : Hid (∀ wx, Below w5.heap.size w5 wx → (Below w5.heap.size w5 wx ∧ wx.cell? ⟨w4.heap.size, 0, none⟩ = some (.int .i64 a) ∧ wx.cell? ⟨w4.heap.size, 1, none⟩ = some (.int .i64 b) ∧ wx.cell? ⟨w4.heap.size, 2, none⟩ = some (.slice (some ⟨g4, 0, none⟩) n n) ∧ wx.cell? ⟨w4.heap.size, 3, none⟩ = some (.int .i64 d) ∧ wx.cell? ⟨w.heap.size, 0, none⟩ = some (.int .i64 a) ∧ wx.cell? ⟨w.heap.size, 1, none⟩ = some (.int .i64 b) ∧ wx.cell? ⟨w.heap.size, 2, none⟩ = some (.slice A n cp) ∧ wx.cell? ⟨w.heap.size, 3, none⟩ = some (.int .i64 d))) := Lib.hid (fun wx h => ⟨h, (h.cell (p := ⟨w4.heap.size, 0, none⟩) (by simp; try omega)).trans (by simp [go_sem, *]), (h.cell (p := ⟨w4.heap.size, 1, none⟩) (by simp; try omega)).trans (by simp [go_sem, *]), (h.cell (p := ⟨w4.heap.size, 2, none⟩) (by simp; try omega)).trans (by simp [go_sem, *]), (h.cell (p := ⟨w4.heap.size, 3, none⟩) (by simp; try omega)).trans (by simp [go_sem, *]), (h.cell (p := ⟨w.heap.size, 0, none⟩) (by simp; try omega)).trans (by simp [go_sem, *]), (h.cell (p := ⟨w.heap.size, 1, none⟩) (by simp; try omega)).trans (by simp [go_sem, *]), (h.cell (p := ⟨w.heap.size, 2, none⟩) (by simp; try omega)).trans (by simp [go_sem, *]), (h.cell (p := ⟨w.heap.size, 3, none⟩) (by simp; try omega)).trans (by simp [go_sem, *])⟩)
    go_region_held3 (fun wx => Below w5.heap.size w5 wx ∧ wx.cell? ⟨w4.heap.size, 0, none⟩ = some (.int .i64 a) ∧ wx.cell? ⟨w4.heap.size, 1, none⟩ = some (.int .i64 b) ∧ wx.cell? ⟨w4.heap.size, 2, none⟩ = some (.slice (some ⟨g4, 0, none⟩) n n) ∧ wx.cell? ⟨w4.heap.size, 3, none⟩ = some (.int .i64 d) ∧ wx.cell? ⟨w.heap.size, 0, none⟩ = some (.int .i64 a) ∧ wx.cell? ⟨w.heap.size, 1, none⟩ = some (.int .i64 b) ∧ wx.cell? ⟨w.heap.size, 2, none⟩ = some (.slice A n cp) ∧ wx.cell? ⟨w.heap.size, 3, none⟩ = some (.int .i64 d)) (first | exact HK.out _ (Below.refl _ _).drew | exact HK.out _ (below_step (And.left ‹_›) ‹_›)) (first | (go_at_call 46; refine (toSender_any _ _ _ _ _ _ zs _ hn hn' (hr5.below (And.left ‹_›))).mono ?_; rintro e w' ⟨g6, rfl, hown6, hb6⟩) | (go_at_call 47; refine (eqSender_same _ _ _ _ _ _ _ _ _ zs _ hn hn (by omega) (hx5.below (And.left ‹_›)) (Rd.of_own (by assumption))).mono ?_; rintro e w' ⟨rfl, hb7⟩))
    have hB5 := below_step (below_step (below_step hB1 hb2) hb3) (below_step hb4 (((Below.refl _ _).alloc (Nat.le_refl _) _).trans (hb5.mono (by simp))))
    clear hc1 hf1 hc2 hf2 hc3 hf3 hc4 hf4 hc5 hf5
    all_goals
      have hH := below_step hB5 (And.left ‹_›)
      go_wp2
      go_ret
      exact ⟨rfl, hH⟩

/-! ### The row's step, written by a program of ours (frame.py) -/
namespace fnExactSenderOkDone
open Go.ChangeShapes Go.WideShapes Go.ChangeAt
open Go.ChangeMaps (open_string)
theorem own : ownKnob Try.prog.godebug = none := by kernel_rfl
theorem laidOut : laidOutB Try.prog = true := by kernel_rfl
set_option maxRecDepth 100000 in
theorem lifted (os : Os) (started : os.Started) (H : Type) (enc : TypeId × Value → H) :
    ReturnsInHanded {} Try.checked os 11 .any (Rows.fnExactSenderOkSpec.pre6 enc Try.prog Try.f11 Rows.fnExactSenderOkRow.domain false) (Rows.fnExactSenderOkSpec.post enc Try.prog Try.f11 false true false false) := by
  refine returnsInHanded_of_change (C := Try.checked) own started (by kernel_rfl) Try.func11
    (ChangeSpec.witness6 (enc := enc) (C := Try.checked) false ⟨#[], #[.agg #[.int .i64 0, .int .i64 0, .slice none 0 0, .int .i64 0]], []⟩ 8 (by kernel_rfl) (by kernel_rfl) (by kernel_rfl) (by kernel_rfl)) ?_
  intro W base args ds gs before hval0 hW hcnd _
  have hval : ∀ (j : Nat) t v, Try.f11.params[j]? = some t → args[j]? = some v → Value.okWide Try.prog W .any base t v := hval0
  have hW' := hW
  obtain ⟨p, q, hA0, hV, rfl, hfz, hnd⟩ := hW
  have hA : DataW.TrodAll enc Try.prog W 0 (fun _ => true) true Try.f11.params.toList args.toList ds p := hA0
  rw [Try.params11] at hA hval
  obtain ⟨v0, vs0, d0, ds0, p0, q0, hargs, rfl, rfl, h0, r0⟩ := trodAll_cons hA
  obtain ⟨rfl, rfl, rfl⟩ := trodAll_nil r0
  obtain rfl : args = #[v0] := by cases args; simp_all
  obtain ⟨rfl, rfl⟩ := trodVars_none hV
  have k0 := h0
  have lt0 : ∀ x ∈ p0, x.block < W.heap.size := by obtain ⟨m, hm⟩ := k0; exact DataW.trod_lt m _ _ _ hm
  obtain ⟨cs0, rfl, _⟩ := okWide_struct Try.underlying63 (hval 0 63 v0 rfl rfl)
  obtain ⟨fuel0, hf0⟩ := h0
  obtain ⟨x0a, x0b, x0d, A0, n0, c0, rs0, hcs0, hxa0, hxb0, hxd0, hlen0, hnc0, hcm0, hrd0, hwf0⟩ := open_Sender hf0
  obtain ⟨cs0⟩ := cs0
  simp only [Value.cells] at hcs0
  subst hcs0
  clear hA0 hval0
  refine (fnExactSenderOk_walk (w := W) x0a x0b x0d A0 n0 c0 rs0 hxa0 hxb0 hxd0 hlen0 hnc0 hcm0 hrd0 hwf0).mono fun e W' ⟨he, bel⟩ => ?_
  subst he
  exact ⟨_, rfl, _, _, _, [], _, [], hW', trodAll_mk1 (shut_bool Try.underlying4 _), (trodAll_cons_mk (Below.trod laidOut (by kernel_rfl) (of_decide_eq_true (by kernel_rfl)) k0 bel lt0) trodAll_mk0), rfl, bel.frame _, fun h => by cases h⟩
theorem proved : Rows.FnExactSenderOkSaid :=
  OpenClaim.holds_of_wide 11 Try.f11 rfl rfl rfl rfl rfl rfl rfl ⟨rfl, rfl, rfl, rfl, rfl⟩ rfl rfl rfl rfl rfl (by kernel_rfl) Try.func11 (by kernel_rfl)
    (of_decide_eq_true (by kernel_rfl)) (by unfold Func.isWrapper; first | (rw [if_pos (by decide +kernel)]; kernel_rfl) | (rw [if_neg (by decide +kernel)]; exact ⟨rfl, rfl⟩))
    (fun os started H enc _ => lifted os started H enc)
end fnExactSenderOkDone
end Go.Proofs.Ytpnejmlbfadaaaa
