/- The program's AcceptOrder returns what the reference's returns, for all arguments. No condition. -/
import Derived.Test.YtoccapmoehdohaaBdBun
import Derived.Test.YtoccapmoehdohaaBdAccS
import Derived.Test.YtoccapmoehdohaaBdArg
namespace Go.Proofs.Ytoccapmoehdohaa
open Go.RowKit
set_option linter.unusedSimpArgs false
set_option linter.unusedVariables false

set_option maxRecDepth 100000 in
set_option maxHeartbeats 8000000 in
theorem fnExactAcceptOrder_walk {w : World} {S : BSl} {b : EBoard} (hR : RdL w S b) (hL : BdL S) (hT : ∀ z ∈ b.rs, Txt z.f3) (ok ot oa ob : Int) (_ : I64 ok) (_ : I64 ot) (_ : I64 oa) (_ : I64 ob) :
    Calls Try.prog 7 #[bdV S b, .agg #[.int .i64 ok, .int .i64 ot, .int .i64 oa, .int .i64 ob]] w fun e w' => e = .returned (.bool true) ∧ Below w.heap.size w w' := by
  have hr_ab := hR
  refine enter 104 Try.func7 rfl rfl (Nat.le_of_ble_eq_true rfl) ?_
  intro a0 hs hargs
  have s0 : a0.eval (.tmp 0) = bdV S b := hargs 0 _ rfl
  have s1 : a0.eval (.tmp 1) = .agg #[.int .i64 ok, .int .i64 ot, .int .i64 oa, .int .i64 ob] := hargs 1 _ rfl
  clear hargs
  have hB : Below w.heap.size w w := Below.refl _ _
  refine wp_seq_k fun K1 hK1 => ?_
  refine wp_region_lit ?_
  refine q_v hs rfl rfl rfl ?_
  refine g_box (cs := #[.int .i64 b.clk, .slice S.p.A S.p.n S.p.c, .bool b.safe, .slice S.l.A S.l.n S.l.c, .slice S.o.A S.o.n S.o.c, .slice S.d.A S.d.n S.d.c, .int .i64 b.room, .slice S.r.A S.r.n S.r.c, .slice S.x.A S.x.n S.x.c, .int .i64 b.made, .int .i64 b.taken, .slice S.q.A S.q.n S.q.c]) rfl s0 rfl ?_
  intro q2 w3 N_q2
  replace hB := below_new hB hB.size N_q2
  have h_q2 := N_q2.here
  clear N_q2
  intro a1 p1
  refine q_v p1.s rfl rfl rfl ?_
  refine g_box rfl (p1.k s1 rfl) rfl ?_
  intro q4 w5 N_q4
  replace h_q2 := keep_below h_q2 N_q4.below
  replace hB := below_new hB hB.size N_q4
  have h_q4 := N_q4.here
  clear N_q4
  intro a2 p2
  refine q_v p2.s rfl rfl rfl (g_assign rfl rfl ?_)
  intro a3 p3
  have s4 : a3.eval (.tmp 4) = .bool false := p3.v
  refine wpList_nil ?_
  replace s2 := p3.k (p2.k p1.v rfl) rfl
  replace s3 := p3.k p2.v rfl
  refine hK1 _ _ ?_
  clear hK1
  refine wp_seq_k fun K6 hK6 => ?_
  refine wp_region_lit ?_
  refine q_v p3.s rfl rfl rfl (g_assign rfl rfl ?_)
  intro a4 p4
  have s5 : a4.eval (.tmp 5) = .int .i64 1048576 := p4.v
  refine wpList_nil ?_
  replace s2 := p4.k s2 rfl
  replace s3 := p4.k s3 rfl
  replace s4 := p4.k s4 rfl
  refine hK6 _ _ ?_
  clear hK6
  refine wp_seq_k fun K7 hK7 => ?_
  refine wp_region_lit ?_
  refine q_v p4.s rfl rfl rfl (g_loadB rfl s2 Try.isAgg62 Try.sizeOf62 rfl h_q2 ?_)
  intro a5 p5
  refine q_v p5.s rfl rfl rfl (g_move rfl (p5.k s5 rfl) ?_)
  intro a6 p6
  refine q_v p6.s rfl rfl rfl ?_
  refine g_call rfl rfl Try.call22 (arr2 (p6.k p5.v rfl) p6.v) ?_
  refine (szBoard_any (S := S) (b := b) _ _ (hr_ab.below hB) hL hT (by omega) (by omega)).mono ?_
  rintro e w9 ⟨q, rfl, hq0, hq1, hb8⟩
  refine ⟨_, rfl, ?_⟩
  replace h_q2 := keep_below h_q2 hb8
  replace h_q4 := keep_below h_q4 hb8
  replace hB := hB.trans (hb8.mono hB.size)
  clear hb8
  intro a7 p7
  refine q_v p7.s rfl rfl rfl (g_assign rfl p7.v ?_)
  intro a8 p8
  refine wpList_nil ?_
  have kc4 := ((((Kps.nil a4).u p5).u p6).u p7).u p8
  replace s2 := kc4.k s2 rfl
  replace s3 := kc4.k s3 rfl
  replace s4 := kc4.k s4 rfl
  replace s5 := p8.v
  clear kc4
  refine hK7 _ _ ?_
  clear hK7
  refine wp_seq_k fun K10 hK10 => ?_
  refine wp_seq_k fun K11 hK11 => ?_
  refine wp_region_lit ?_
  refine q_v p8.s rfl rfl rfl (g_move rfl s5 ?_)
  intro a9 p9
  refine q_v p9.s rfl rfl rfl (g_lss rfl p9.v rfl ?_)
  intro a10 p10
  refine wpList_nil ?_
  replace s2 := p10.k (p9.k s2 rfl) rfl
  replace s3 := p10.k (p9.k s3 rfl) rfl
  replace s4 := p10.k (p9.k s4 rfl) rfl
  replace s20 := p10.v
  refine hK11 _ _ ?_
  clear hK11
  by_cases hc12 : q < 0
  · replace s20 : a10.eval (.tmp 20) = .bool true := (s20).trans (congrArg Value.bool (decide_eq_true hc12))
    refine c_true s20 ?_
    refine wp_seq_k fun K13 hK13 => ?_
    refine wp_region_lit ?_
    refine q_v p10.s rfl rfl rfl (g_assign rfl rfl ?_)
    intro a11 p11
    have s4 : a11.eval (.tmp 4) = .bool true := p11.v
    refine wpList_nil ?_
    replace s2 := p11.k s2 rfl
    replace s3 := p11.k s3 rfl
    refine hK13 _ _ ?_
    clear hK13
    refine wp_ret ?_
    try dsimp only [Exit.then, Exit.inBlock]
    refine ret1 p11.s Try.results7 (res_tmp s4) ?_
    exact ⟨rfl, hB⟩
  replace s20 : a10.eval (.tmp 20) = .bool false := (s20).trans (congrArg Value.bool (decide_eq_false hc12))
  refine c_false s20 ?_
  refine wp_skip ?_
  refine hK10 _ _ ?_
  clear hK10
  refine wp_seq_k fun K14 hK14 => ?_
  have hW := hq1 (by omega)
  have hs := p10.s
  refine wp_drawn (n := 104) [7, 10] [9] [] (fun k_ v_ wx => match k_ with | 0 => v_ = .agg #[.int .i64 b.clk, .slice S.p.A S.p.n S.p.c, .bool b.safe, .slice S.l.A S.l.n S.l.c, .slice S.o.A S.o.n S.o.c, .slice S.d.A S.d.n S.d.c, .int .i64 b.room, .slice S.r.A S.r.n S.r.c, .slice S.x.A S.x.n S.x.c, .int .i64 b.made, .int .i64 b.taken, .slice S.q.A S.q.n S.q.c] | 1 => ∃ (S15 : BSl), v_ = bdV S15 b ∧ (OwnB (wx) w9.heap.size S15 b) | 2 => v_ = .agg #[.int .i64 ok, .int .i64 ot, .int .i64 oa, .int .i64 ob] | 3 => v_ = .agg #[.int .i64 ok, .int .i64 ot, .int .i64 oa, .int .i64 ob] | 4 => ∃ (S17 : BSl), v_ = .tuple #[bdV S17 ((bdAcc b ok ot oa ob).1), .bool ((bdAcc b ok ot oa ob).2)] ∧ (OwnB (wx) w9.heap.size S17 ((bdAcc b ok ot oa ob).1)) | 5 => ∃ (S17_r18 : BSl), v_ = .tuple #[bdV S17_r18 ((bdAcc b ok ot oa ob).1), .bool ((bdAcc b ok ot oa ob).2)] ∧ (OwnB (wx) w9.heap.size S17_r18 ((bdAcc b ok ot oa ob).1)) | 6 => ∃ (S17_r18_r19 : BSl), v_ = bdV S17_r18_r19 ((bdAcc b ok ot oa ob).1) ∧ (OwnB (wx) w9.heap.size S17_r18_r19 ((bdAcc b ok ot oa ob).1)) | 7 => v_ = .bool ((bdAcc b ok ot oa ob).2) | 8 => ∃ q20, v_ = .pointer (some ⟨q20, 0, none⟩) ∧ w9.heap.size ≤ q20 ∧ wx.heap[q20]? = some (.cells #[.int .i64 0, .slice none 0 0, .bool false, .slice none 0 0, .slice none 0 0, .slice none 0 0, .int .i64 0, .slice none 0 0, .slice none 0 0, .int .i64 0, .int .i64 0, .slice none 0 0] 32 (0, 0)) | 10 => v_ = .bool ((bdAcc b ok ot oa ob).2) | _ => True) (by kernel_rfl) (by kernel_rfl) (by kernel_rfl) (by kernel_rfl) hs.size ?_ ?_ ?_
  · intro i v wa wb hb hr
    rcases i with _ | _ | _ | _ | _ | _ | _ | _ | _ | _ | _ | i
    · exact hr
    · obtain ⟨S15, hr, o_y15⟩ := hr; exact ⟨S15, hr, o_y15.below hb⟩
    · exact hr
    · exact hr
    · obtain ⟨S17, hr, o_y17⟩ := hr; exact ⟨S17, hr, o_y17.below hb⟩
    · obtain ⟨S17_r18, hr, o_r18⟩ := hr; exact ⟨S17_r18, hr, o_r18.below hb⟩
    · obtain ⟨S17_r18_r19, hr, o_r19⟩ := hr; exact ⟨S17_r18_r19, hr, o_r19.below hb⟩
    · exact hr
    · obtain ⟨q20, hr, hg, hh⟩ := hr; exact ⟨q20, hr, hg, keep_below hh hb⟩
    · trivial
    · exact hr
    · trivial
  · refine d_step rfl rfl ?_ (d_step rfl rfl ?_ (d_step rfl rfl ?_ (d_step rfl rfl ?_ (d_step rfl rfl ?_ (d_step rfl rfl ?_ (d_step rfl rfl ?_ (d_late rfl rfl ?_ (d_step rfl rfl ?_ (d_chain rfl (d_late rfl rfl ?_ (d_nil)))))))))))
    · intro xv_ wx ρ hρ hwx hd K hK
      have e2 : ρ (.tmp 2) = .pointer (some ⟨q2, 0, none⟩) := (hρ.inn 2 rfl).trans s2
      have h_q2 := keep_below h_q2 hwx
      refine g_loadB rfl e2 Try.isAgg62 Try.sizeOf62 rfl h_q2 ?_
      exact hK _ _ (Below.refl _ _) rfl
    · intro xv_ wx ρ hρ hwx hd K hK
      obtain r0 : xv_ 0 = .agg #[.int .i64 b.clk, .slice S.p.A S.p.n S.p.c, .bool b.safe, .slice S.l.A S.l.n S.l.c, .slice S.o.A S.o.n S.o.c, .slice S.d.A S.d.n S.d.c, .int .i64 b.room, .slice S.r.A S.r.n S.r.c, .slice S.x.A S.x.n S.x.c, .int .i64 b.made, .int .i64 b.taken, .slice S.q.A S.q.n S.q.c] := hd 0 rfl
      have e22 : ρ (.tmp 22) = .agg #[.int .i64 b.clk, .slice S.p.A S.p.n S.p.c, .bool b.safe, .slice S.l.A S.l.n S.l.c, .slice S.o.A S.o.n S.o.c, .slice S.d.A S.d.n S.d.c, .int .i64 b.room, .slice S.r.A S.r.n S.r.c, .slice S.x.A S.x.n S.x.c, .int .i64 b.made, .int .i64 b.taken, .slice S.q.A S.q.n S.q.c] := (hρ.out 0 22 rfl (by rw [hs.size]; decide) rfl).trans r0
      refine g_call rfl (hρ.fn _) Try.call24 (arr1 e22) ?_
      refine (toBoard_any (S := S) (b := b) _ ((hr_ab.below hB).below hwx) hW).mono ?_
      rintro e wy ⟨S15, rfl, o_y15, hb15⟩
      exact ⟨_, rfl, hK _ _ hb15 ⟨S15, rfl, o_y15.rebase hwx.size⟩⟩
    · intro xv_ wx ρ hρ hwx hd K hK
      have e3 : ρ (.tmp 3) = .pointer (some ⟨q4, 0, none⟩) := (hρ.inn 3 rfl).trans s3
      have h_q4 := keep_below h_q4 hwx
      refine g_loadB rfl e3 Try.isAgg73 Try.sizeOf73 rfl h_q4 ?_
      exact hK _ _ (Below.refl _ _) rfl
    · intro xv_ wx ρ hρ hwx hd K hK
      obtain r2 : xv_ 2 = .agg #[.int .i64 ok, .int .i64 ot, .int .i64 oa, .int .i64 ob] := hd 2 rfl
      have e24 : ρ (.tmp 24) = .agg #[.int .i64 ok, .int .i64 ot, .int .i64 oa, .int .i64 ob] := (hρ.out 2 24 rfl (by rw [hs.size]; decide) rfl).trans r2
      refine g_call rfl (hρ.fn _) Try.call34 (arr1 e24) ?_
      refine (toOrder_any _ _ _ _ _).mono ?_
      rintro e wy ⟨rfl, hb16⟩
      exact ⟨_, rfl, hK _ _ hb16 rfl⟩
    · intro xv_ wx ρ hρ hwx hd K hK
      obtain ⟨S15, r1, o_y15⟩ : ∃ (S15 : BSl), xv_ 1 = bdV S15 b ∧ (OwnB (wx) w9.heap.size S15 b) := hd 1 rfl
      have e23 : ρ (.tmp 23) = bdV S15 b := (hρ.out 1 23 rfl (by rw [hs.size]; decide) rfl).trans r1
      obtain r3 : xv_ 3 = .agg #[.int .i64 ok, .int .i64 ot, .int .i64 oa, .int .i64 ob] := hd 3 rfl
      have e25 : ρ (.tmp 25) = .agg #[.int .i64 ok, .int .i64 ot, .int .i64 oa, .int .i64 ob] := (hρ.out 3 25 rfl (by rw [hs.size]; decide) rfl).trans r3
      refine g_call rfl (hρ.fn _) Try.call33 (arr2 e23 e25) ?_
      refine (sAcceptOrder_any (S := S15) (b := b) _ o_y15.rd hW).mono ?_
      rintro e wy ⟨S17, rfl, o_y17, hb17⟩
      exact ⟨_, rfl, hK _ _ hb17 ⟨S17, rfl, o_y17.rebase hwx.size⟩⟩
    · intro xv_ wx ρ hρ hwx hd K hK
      obtain ⟨S17, r4, o_y17⟩ : ∃ (S17 : BSl), xv_ 4 = .tuple #[bdV S17 ((bdAcc b ok ot oa ob).1), .bool ((bdAcc b ok ot oa ob).2)] ∧ (OwnB (wx) w9.heap.size S17 ((bdAcc b ok ot oa ob).1)) := hd 4 rfl
      have e26 : ρ (.tmp 26) = .tuple #[bdV S17 ((bdAcc b ok ot oa ob).1), .bool ((bdAcc b ok ot oa ob).2)] := (hρ.out 4 26 rfl (by rw [hs.size]; decide) rfl).trans r4
      refine g_move rfl e26 ?_
      exact hK _ _ (Below.refl _ _) ⟨S17, rfl, o_y17⟩
    · intro xv_ wx ρ hρ hwx hd K hK
      obtain ⟨S17_r18, r5, o_r18⟩ : ∃ (S17_r18 : BSl), xv_ 5 = .tuple #[bdV S17_r18 ((bdAcc b ok ot oa ob).1), .bool ((bdAcc b ok ot oa ob).2)] ∧ (OwnB (wx) w9.heap.size S17_r18 ((bdAcc b ok ot oa ob).1)) := hd 5 rfl
      have e21 : ρ (.tmp 21) = .tuple #[bdV S17_r18 ((bdAcc b ok ot oa ob).1), .bool ((bdAcc b ok ot oa ob).2)] := (hρ.out 5 21 rfl (by rw [hs.size]; decide) rfl).trans r5
      refine g_extract rfl e21 rfl ?_
      exact hK _ _ (Below.refl _ _) ⟨S17_r18, rfl, o_r18⟩
    · intro xv_ wx ρ hρ hwx hd
      obtain ⟨S17_r18, r5, o_r18⟩ : ∃ (S17_r18 : BSl), xv_ 5 = .tuple #[bdV S17_r18 ((bdAcc b ok ot oa ob).1), .bool ((bdAcc b ok ot oa ob).2)] ∧ (OwnB (wx) w9.heap.size S17_r18 ((bdAcc b ok ot oa ob).1)) := hd 5 rfl rfl
      have e21 : ρ (.tmp 21) = .tuple #[bdV S17_r18 ((bdAcc b ok ot oa ob).1), .bool ((bdAcc b ok ot oa ob).2)] := (hρ.out 5 21 rfl (by rw [hs.size]; decide) rfl).trans r5
      exact ⟨_, fun w' => l_extract rfl e21 rfl, rfl⟩
    · intro xv_ wx ρ hρ hwx hd K hK
      refine g_alloc rfl Try.zeroValue32 rfl ?_
      intro q w' N
      exact hK _ _ N.below ⟨q, rfl, Nat.le_trans hwx.size N.lo, N.here⟩
    · intro xv_ wx ρ hρ hwx hd
      obtain r7 : xv_ 7 = .bool ((bdAcc b ok ot oa ob).2) := hd 7 rfl rfl
      have e28 : ρ (.tmp 28) = .bool ((bdAcc b ok ot oa ob).2) := (hρ.out 7 28 rfl (by rw [hs.size]; decide) rfl).trans r7
      exact ⟨_, fun w' => l_assign rfl e28, rfl⟩
  · intro x0_ w21 hb_w21 hr0
    obtain r0 : x0_ 0 = .agg #[.int .i64 b.clk, .slice S.p.A S.p.n S.p.c, .bool b.safe, .slice S.l.A S.l.n S.l.c, .slice S.o.A S.o.n S.o.c, .slice S.d.A S.d.n S.d.c, .int .i64 b.room, .slice S.r.A S.r.n S.r.c, .slice S.x.A S.x.n S.x.c, .int .i64 b.made, .int .i64 b.taken, .slice S.q.A S.q.n S.q.c] := hr0 0 (by decide) rfl rfl
    obtain ⟨S15, r1, o_y15⟩ : ∃ (S15 : BSl), x0_ 1 = bdV S15 b ∧ (OwnB (w21) w9.heap.size S15 b) := hr0 1 (by decide) rfl rfl
    obtain r2 : x0_ 2 = .agg #[.int .i64 ok, .int .i64 ot, .int .i64 oa, .int .i64 ob] := hr0 2 (by decide) rfl rfl
    obtain r3 : x0_ 3 = .agg #[.int .i64 ok, .int .i64 ot, .int .i64 oa, .int .i64 ob] := hr0 3 (by decide) rfl rfl
    obtain ⟨S17, r4, o_y17⟩ : ∃ (S17 : BSl), x0_ 4 = .tuple #[bdV S17 ((bdAcc b ok ot oa ob).1), .bool ((bdAcc b ok ot oa ob).2)] ∧ (OwnB (w21) w9.heap.size S17 ((bdAcc b ok ot oa ob).1)) := hr0 4 (by decide) rfl rfl
    obtain ⟨S17_r18, r5, o_r18⟩ : ∃ (S17_r18 : BSl), x0_ 5 = .tuple #[bdV S17_r18 ((bdAcc b ok ot oa ob).1), .bool ((bdAcc b ok ot oa ob).2)] ∧ (OwnB (w21) w9.heap.size S17_r18 ((bdAcc b ok ot oa ob).1)) := hr0 5 (by decide) rfl rfl
    obtain ⟨S17_r18_r19, r6, o_r19⟩ : ∃ (S17_r18_r19 : BSl), x0_ 6 = bdV S17_r18_r19 ((bdAcc b ok ot oa ob).1) ∧ (OwnB (w21) w9.heap.size S17_r18_r19 ((bdAcc b ok ot oa ob).1)) := hr0 6 (by decide) rfl rfl
    obtain ⟨q20, r8, g0_q20, h_q20⟩ : ∃ q20, x0_ 8 = .pointer (some ⟨q20, 0, none⟩) ∧ w9.heap.size ≤ q20 ∧ w21.heap[q20]? = some (.cells #[.int .i64 0, .slice none 0 0, .bool false, .slice none 0 0, .slice none 0 0, .slice none 0 0, .int .i64 0, .slice none 0 0, .slice none 0 0, .int .i64 0, .int .i64 0, .slice none 0 0] 32 (0, 0)) := hr0 8 (by decide) rfl rfl
    clear hr0
    replace o_r19 := o_r19.rebase hB.size
    have n_q2_q20 : NeB q2 q20 := ⟨fun e => by have := lt_of_block h_q2; omega⟩
    have n_q20_q2 := n_q2_q20.symm
    have n_q4_q20 : NeB q4 q20 := ⟨fun e => by have := lt_of_block h_q4; omega⟩
    have n_q20_q4 := n_q4_q20.symm
    have g_q20 : GeB w.heap.size q20 := ⟨Nat.le_trans hB.size g0_q20⟩
    clear g0_q20
    have d_r19_q20 := o_r19.neBoard h_q20
    replace h_q2 := keep_below h_q2 hb_w21
    replace h_q4 := keep_below h_q4 hb_w21
    replace hB := hB.trans (hb_w21.mono hB.size)
    clear hb_w21
    intro op_ ho_ xv_ ρ hρ qx_ ql_ qk_
    obtain rfl := Option.some.inj ho_
    clear ho_
    have e6 : ρ (.tmp 6) = .pointer (some ⟨q20, 0, none⟩) := (hρ.out 8 6 rfl (by rw [hs.size]; decide) rfl).trans ((qx_ 8 (by decide) rfl rfl).trans r8)
    have e27 : ρ (.tmp 27) = bdV S17_r18_r19 ((bdAcc b ok ot oa ob).1) := (hρ.out 6 27 rfl (by rw [hs.size]; decide) rfl).trans ((qx_ 6 (by decide) rfl rfl).trans r6)
    refine g_storeB rfl e6 e27 Try.sizeOf32 rfl rfl h_q20 rfl ?_
    intro w22 W_w22
    replace h_q2 := keep_wrote h_q2 W_w22 n_q20_q2
    replace h_q4 := keep_wrote h_q4 W_w22 n_q20_q4
    replace h_q20 := W_w22.here
    replace o_r19 := o_r19.wrote W_w22 d_r19_q20
    replace hB := below_wrote hB hB.size W_w22 g_q20.le
    clear W_w22
    clear e27 e6
    clear hρ qx_ ql_ qk_
    intro xv_ a11 hρ hsz hdf qx_ ql_ qk_ qlk_
    replace s2 : a11.eval (.tmp 2) = .pointer (some ⟨q2, 0, none⟩) := (hρ.inn 2 rfl).trans s2
    replace s3 : a11.eval (.tmp 3) = .pointer (some ⟨q4, 0, none⟩) := (hρ.inn 3 rfl).trans s3
    replace s4 : a11.eval (.tmp 4) = .bool false := (hρ.inn 4 rfl).trans s4
    have s6 : a11.eval (.tmp 6) = .pointer (some ⟨q20, 0, none⟩) := (hρ.out 8 6 rfl (by rw [hs.size]; decide)).trans ((qx_ 8 (by decide) rfl rfl).trans r8)
    have s7 : a11.eval (.tmp 7) = .bool ((bdAcc b ok ot oa ob).2) := (hρ.out 10 7 rfl (by rw [hs.size]; decide)).trans (ql_ 10 (by decide) rfl)
    replace hs : St 104 a11 := ⟨hsz.trans hs.size, hdf.trans hs.nodef⟩
    clear hρ hsz hdf qx_ ql_ qk_ qlk_
    refine hK14 _ _ ?_
    clear hK14
    refine wp_seq_k fun K23 hK23 => ?_
    refine wp_region_lit ?_
    refine q_v hs rfl rfl rfl (g_loadB rfl s2 Try.isAgg62 Try.sizeOf62 rfl h_q2 ?_)
    intro a12 p12
    refine q_v p12.s rfl rfl rfl ?_
    refine g_call rfl rfl Try.call24 (arr1 p12.v) ?_
    refine (toBoard_any (S := S) (b := b) _ (hr_ab.below hB) hW).mono ?_
    rintro e w25 ⟨S24, rfl, o_y24, hb24⟩
    refine ⟨_, rfl, ?_⟩
    have d_y24_q2 := o_y24.neBox (lt_of_block h_q2)
    have d_y24_q4 := o_y24.neBox (lt_of_block h_q4)
    have d_y24_q20 := o_y24.neBox (lt_of_block h_q20)
    have m_r19_y24 := o_r19.apart o_y24 (Nat.le_refl _)
    replace o_y24 := o_y24.rebase hB.size
    replace h_q2 := keep_below h_q2 hb24
    replace h_q4 := keep_below h_q4 hb24
    replace h_q20 := keep_below h_q20 hb24
    replace o_r19 := o_r19.below hb24
    replace hB := hB.trans (hb24.mono hB.size)
    clear hb24
    intro a13 p13
    refine q_v p13.s rfl rfl rfl ?_
    refine g_alloc rfl Try.zeroValue32 rfl ?_
    intro q26 w27 N_q26
    have n_q2_q26 := N_q26.ne ⟨lt_of_block h_q2⟩
    have n_q26_q2 := n_q2_q26.symm
    have n_q4_q26 := N_q26.ne ⟨lt_of_block h_q4⟩
    have n_q26_q4 := n_q4_q26.symm
    have n_q20_q26 := N_q26.ne ⟨lt_of_block h_q20⟩
    have n_q26_q20 := n_q20_q26.symm
    have d_r19_q26 := o_r19.neNew N_q26
    have d_y24_q26 := o_y24.neNew N_q26
    have g_q26 : GeB w.heap.size q26 := ⟨Nat.le_trans hB.size N_q26.lo⟩
    replace h_q2 := keep_below h_q2 N_q26.below
    replace h_q4 := keep_below h_q4 N_q26.below
    replace h_q20 := keep_below h_q20 N_q26.below
    replace o_r19 := o_r19.below N_q26.below
    replace o_y24 := o_y24.below N_q26.below
    replace hB := below_new hB hB.size N_q26
    have h_q26 := N_q26.here
    clear N_q26
    intro a14 p14
    refine q_eff rfl rfl ?_
    refine g_storeB rfl p14.v (p14.k p13.v rfl) Try.sizeOf32 rfl rfl h_q26 rfl ?_
    intro w28 W_w28
    replace h_q2 := keep_wrote h_q2 W_w28 n_q26_q2
    replace h_q4 := keep_wrote h_q4 W_w28 n_q26_q4
    replace h_q20 := keep_wrote h_q20 W_w28 n_q26_q20
    replace h_q26 := W_w28.here
    replace o_r19 := o_r19.wrote W_w28 d_r19_q26
    replace o_y24 := o_y24.wrote W_w28 d_y24_q26
    replace hB := below_wrote hB hB.size W_w28 g_q26.le
    clear W_w28
    refine wpList_nil ?_
    have kc11 := (((Kps.nil a11).u p12).u p13).u p14
    replace s2 := kc11.k s2 rfl
    replace s3 := kc11.k s3 rfl
    replace s4 := kc11.k s4 rfl
    replace s6 := kc11.k s6 rfl
    replace s7 := kc11.k s7 rfl
    replace s8 := p14.v
    clear kc11
    refine hK23 _ _ ?_
    clear hK23
    refine wp_seq_k fun K29 hK29 => ?_
    have hs := p14.s
    refine wp_drawn (n := 104) [6, 9] [8] [] (fun k_ v_ wx => match k_ with | 0 => v_ = .agg #[.int .i64 b.clk, .slice S24.p.A S24.p.n S24.p.c, .bool b.safe, .slice S24.l.A S24.l.n S24.l.c, .slice S24.o.A S24.o.n S24.o.c, .slice S24.d.A S24.d.n S24.d.c, .int .i64 b.room, .slice S24.r.A S24.r.n S24.r.c, .slice S24.x.A S24.x.n S24.x.c, .int .i64 b.made, .int .i64 b.taken, .slice S24.q.A S24.q.n S24.q.c] | 1 => v_ = .agg #[.int .i64 ok, .int .i64 ot, .int .i64 oa, .int .i64 ob] | 2 => v_ = .agg #[.int .i64 ok, .int .i64 ot, .int .i64 oa, .int .i64 ob] | 3 => ∃ (S31 : BSl), v_ = .tuple #[bdV S31 ((bdAcc b ok ot oa ob).1), .bool ((bdAcc b ok ot oa ob).2)] ∧ (OwnB (wx) w28.heap.size S31 ((bdAcc b ok ot oa ob).1)) | 4 => ∃ (S31_r32 : BSl), v_ = .tuple #[bdV S31_r32 ((bdAcc b ok ot oa ob).1), .bool ((bdAcc b ok ot oa ob).2)] ∧ (OwnB (wx) w28.heap.size S31_r32 ((bdAcc b ok ot oa ob).1)) | 5 => ∃ (S31_r32_r33 : BSl), v_ = bdV S31_r32_r33 ((bdAcc b ok ot oa ob).1) ∧ (OwnB (wx) w28.heap.size S31_r32_r33 ((bdAcc b ok ot oa ob).1)) | 6 => v_ = .bool ((bdAcc b ok ot oa ob).2) | 7 => ∃ q34, v_ = .pointer (some ⟨q34, 0, none⟩) ∧ w28.heap.size ≤ q34 ∧ wx.heap[q34]? = some (.cells #[.int .i64 0, .slice none 0 0, .bool false, .slice none 0 0, .slice none 0 0, .slice none 0 0, .int .i64 0, .slice none 0 0, .slice none 0 0, .int .i64 0, .int .i64 0, .slice none 0 0] 32 (0, 0)) | 9 => v_ = .bool ((bdAcc b ok ot oa ob).2) | _ => True) (by kernel_rfl) (by kernel_rfl) (by kernel_rfl) (by kernel_rfl) hs.size ?_ ?_ ?_
    · intro i v wa wb hb hr
      rcases i with _ | _ | _ | _ | _ | _ | _ | _ | _ | _ | i
      · exact hr
      · exact hr
      · exact hr
      · obtain ⟨S31, hr, o_y31⟩ := hr; exact ⟨S31, hr, o_y31.below hb⟩
      · obtain ⟨S31_r32, hr, o_r32⟩ := hr; exact ⟨S31_r32, hr, o_r32.below hb⟩
      · obtain ⟨S31_r32_r33, hr, o_r33⟩ := hr; exact ⟨S31_r32_r33, hr, o_r33.below hb⟩
      · exact hr
      · obtain ⟨q34, hr, hg, hh⟩ := hr; exact ⟨q34, hr, hg, keep_below hh hb⟩
      · trivial
      · exact hr
      · trivial
    · refine d_step rfl rfl ?_ (d_step rfl rfl ?_ (d_step rfl rfl ?_ (d_step rfl rfl ?_ (d_step rfl rfl ?_ (d_step rfl rfl ?_ (d_late rfl rfl ?_ (d_step rfl rfl ?_ (d_chain rfl (d_late rfl rfl ?_ (d_nil))))))))))
      · intro xv_ wx ρ hρ hwx hd K hK
        have e8 : ρ (.tmp 8) = .pointer (some ⟨q26, 0, none⟩) := (hρ.inn 8 rfl).trans s8
        have h_q26 := keep_below h_q26 hwx
        refine g_loadB rfl e8 Try.isAgg32 Try.sizeOf32 rfl h_q26 ?_
        exact hK _ _ (Below.refl _ _) rfl
      · intro xv_ wx ρ hρ hwx hd K hK
        have e3 : ρ (.tmp 3) = .pointer (some ⟨q4, 0, none⟩) := (hρ.inn 3 rfl).trans s3
        have h_q4 := keep_below h_q4 hwx
        refine g_loadB rfl e3 Try.isAgg73 Try.sizeOf73 rfl h_q4 ?_
        exact hK _ _ (Below.refl _ _) rfl
      · intro xv_ wx ρ hρ hwx hd K hK
        obtain r1 : xv_ 1 = .agg #[.int .i64 ok, .int .i64 ot, .int .i64 oa, .int .i64 ob] := hd 1 rfl
        have e33 : ρ (.tmp 33) = .agg #[.int .i64 ok, .int .i64 ot, .int .i64 oa, .int .i64 ob] := (hρ.out 1 33 rfl (by rw [hs.size]; decide) rfl).trans r1
        refine g_call rfl (hρ.fn _) Try.call34 (arr1 e33) ?_
        refine (toOrder_any _ _ _ _ _).mono ?_
        rintro e wy ⟨rfl, hb30⟩
        exact ⟨_, rfl, hK _ _ hb30 rfl⟩
      · intro xv_ wx ρ hρ hwx hd K hK
        obtain r0 : xv_ 0 = .agg #[.int .i64 b.clk, .slice S24.p.A S24.p.n S24.p.c, .bool b.safe, .slice S24.l.A S24.l.n S24.l.c, .slice S24.o.A S24.o.n S24.o.c, .slice S24.d.A S24.d.n S24.d.c, .int .i64 b.room, .slice S24.r.A S24.r.n S24.r.c, .slice S24.x.A S24.x.n S24.x.c, .int .i64 b.made, .int .i64 b.taken, .slice S24.q.A S24.q.n S24.q.c] := hd 0 rfl
        have e32 : ρ (.tmp 32) = .agg #[.int .i64 b.clk, .slice S24.p.A S24.p.n S24.p.c, .bool b.safe, .slice S24.l.A S24.l.n S24.l.c, .slice S24.o.A S24.o.n S24.o.c, .slice S24.d.A S24.d.n S24.d.c, .int .i64 b.room, .slice S24.r.A S24.r.n S24.r.c, .slice S24.x.A S24.x.n S24.x.c, .int .i64 b.made, .int .i64 b.taken, .slice S24.q.A S24.q.n S24.q.c] := (hρ.out 0 32 rfl (by rw [hs.size]; decide) rfl).trans r0
        obtain r2 : xv_ 2 = .agg #[.int .i64 ok, .int .i64 ot, .int .i64 oa, .int .i64 ob] := hd 2 rfl
        have e34 : ρ (.tmp 34) = .agg #[.int .i64 ok, .int .i64 ot, .int .i64 oa, .int .i64 ob] := (hρ.out 2 34 rfl (by rw [hs.size]; decide) rfl).trans r2
        refine g_call rfl (hρ.fn _) Try.call13 (arr2 e32 e34) ?_
        refine (acceptOrder_any (S := S24) (b := b) _ (o_y24.rd.below hwx) hW).mono ?_
        rintro e wy ⟨S31, rfl, o_y31, hb31⟩
        exact ⟨_, rfl, hK _ _ hb31 ⟨S31, rfl, o_y31.rebase hwx.size⟩⟩
      · intro xv_ wx ρ hρ hwx hd K hK
        obtain ⟨S31, r3, o_y31⟩ : ∃ (S31 : BSl), xv_ 3 = .tuple #[bdV S31 ((bdAcc b ok ot oa ob).1), .bool ((bdAcc b ok ot oa ob).2)] ∧ (OwnB (wx) w28.heap.size S31 ((bdAcc b ok ot oa ob).1)) := hd 3 rfl
        have e35 : ρ (.tmp 35) = .tuple #[bdV S31 ((bdAcc b ok ot oa ob).1), .bool ((bdAcc b ok ot oa ob).2)] := (hρ.out 3 35 rfl (by rw [hs.size]; decide) rfl).trans r3
        refine g_move rfl e35 ?_
        exact hK _ _ (Below.refl _ _) ⟨S31, rfl, o_y31⟩
      · intro xv_ wx ρ hρ hwx hd K hK
        obtain ⟨S31_r32, r4, o_r32⟩ : ∃ (S31_r32 : BSl), xv_ 4 = .tuple #[bdV S31_r32 ((bdAcc b ok ot oa ob).1), .bool ((bdAcc b ok ot oa ob).2)] ∧ (OwnB (wx) w28.heap.size S31_r32 ((bdAcc b ok ot oa ob).1)) := hd 4 rfl
        have e31 : ρ (.tmp 31) = .tuple #[bdV S31_r32 ((bdAcc b ok ot oa ob).1), .bool ((bdAcc b ok ot oa ob).2)] := (hρ.out 4 31 rfl (by rw [hs.size]; decide) rfl).trans r4
        refine g_extract rfl e31 rfl ?_
        exact hK _ _ (Below.refl _ _) ⟨S31_r32, rfl, o_r32⟩
      · intro xv_ wx ρ hρ hwx hd
        obtain ⟨S31_r32, r4, o_r32⟩ : ∃ (S31_r32 : BSl), xv_ 4 = .tuple #[bdV S31_r32 ((bdAcc b ok ot oa ob).1), .bool ((bdAcc b ok ot oa ob).2)] ∧ (OwnB (wx) w28.heap.size S31_r32 ((bdAcc b ok ot oa ob).1)) := hd 4 rfl rfl
        have e31 : ρ (.tmp 31) = .tuple #[bdV S31_r32 ((bdAcc b ok ot oa ob).1), .bool ((bdAcc b ok ot oa ob).2)] := (hρ.out 4 31 rfl (by rw [hs.size]; decide) rfl).trans r4
        exact ⟨_, fun w' => l_extract rfl e31 rfl, rfl⟩
      · intro xv_ wx ρ hρ hwx hd K hK
        refine g_alloc rfl Try.zeroValue32 rfl ?_
        intro q w' N
        exact hK _ _ N.below ⟨q, rfl, Nat.le_trans hwx.size N.lo, N.here⟩
      · intro xv_ wx ρ hρ hwx hd
        obtain r6 : xv_ 6 = .bool ((bdAcc b ok ot oa ob).2) := hd 6 rfl rfl
        have e37 : ρ (.tmp 37) = .bool ((bdAcc b ok ot oa ob).2) := (hρ.out 6 37 rfl (by rw [hs.size]; decide) rfl).trans r6
        exact ⟨_, fun w' => l_assign rfl e37, rfl⟩
    · intro x0_ w35 hb_w35 hr0
      obtain r0 : x0_ 0 = .agg #[.int .i64 b.clk, .slice S24.p.A S24.p.n S24.p.c, .bool b.safe, .slice S24.l.A S24.l.n S24.l.c, .slice S24.o.A S24.o.n S24.o.c, .slice S24.d.A S24.d.n S24.d.c, .int .i64 b.room, .slice S24.r.A S24.r.n S24.r.c, .slice S24.x.A S24.x.n S24.x.c, .int .i64 b.made, .int .i64 b.taken, .slice S24.q.A S24.q.n S24.q.c] := hr0 0 (by decide) rfl rfl
      obtain r1 : x0_ 1 = .agg #[.int .i64 ok, .int .i64 ot, .int .i64 oa, .int .i64 ob] := hr0 1 (by decide) rfl rfl
      obtain r2 : x0_ 2 = .agg #[.int .i64 ok, .int .i64 ot, .int .i64 oa, .int .i64 ob] := hr0 2 (by decide) rfl rfl
      obtain ⟨S31, r3, o_y31⟩ : ∃ (S31 : BSl), x0_ 3 = .tuple #[bdV S31 ((bdAcc b ok ot oa ob).1), .bool ((bdAcc b ok ot oa ob).2)] ∧ (OwnB (w35) w28.heap.size S31 ((bdAcc b ok ot oa ob).1)) := hr0 3 (by decide) rfl rfl
      obtain ⟨S31_r32, r4, o_r32⟩ : ∃ (S31_r32 : BSl), x0_ 4 = .tuple #[bdV S31_r32 ((bdAcc b ok ot oa ob).1), .bool ((bdAcc b ok ot oa ob).2)] ∧ (OwnB (w35) w28.heap.size S31_r32 ((bdAcc b ok ot oa ob).1)) := hr0 4 (by decide) rfl rfl
      obtain ⟨S31_r32_r33, r5, o_r33⟩ : ∃ (S31_r32_r33 : BSl), x0_ 5 = bdV S31_r32_r33 ((bdAcc b ok ot oa ob).1) ∧ (OwnB (w35) w28.heap.size S31_r32_r33 ((bdAcc b ok ot oa ob).1)) := hr0 5 (by decide) rfl rfl
      obtain ⟨q34, r7, g0_q34, h_q34⟩ : ∃ q34, x0_ 7 = .pointer (some ⟨q34, 0, none⟩) ∧ w28.heap.size ≤ q34 ∧ w35.heap[q34]? = some (.cells #[.int .i64 0, .slice none 0 0, .bool false, .slice none 0 0, .slice none 0 0, .slice none 0 0, .int .i64 0, .slice none 0 0, .slice none 0 0, .int .i64 0, .int .i64 0, .slice none 0 0] 32 (0, 0)) := hr0 7 (by decide) rfl rfl
      clear hr0
      have d_r33_q2 := o_r33.neBox (lt_of_block h_q2)
      have d_r33_q4 := o_r33.neBox (lt_of_block h_q4)
      have d_r33_q20 := o_r33.neBox (lt_of_block h_q20)
      have m_r19_r33 := o_r19.apart o_r33 (Nat.le_refl _)
      have m_y24_r33 := o_y24.apart o_r33 (Nat.le_refl _)
      have m_r33_y24 := m_y24_r33.symm
      replace o_r33 := o_r33.rebase hB.size
      have n_q2_q34 : NeB q2 q34 := ⟨fun e => by have := lt_of_block h_q2; omega⟩
      have n_q34_q2 := n_q2_q34.symm
      have n_q4_q34 : NeB q4 q34 := ⟨fun e => by have := lt_of_block h_q4; omega⟩
      have n_q34_q4 := n_q4_q34.symm
      have n_q20_q34 : NeB q20 q34 := ⟨fun e => by have := lt_of_block h_q20; omega⟩
      have n_q34_q20 := n_q20_q34.symm
      have n_q26_q34 : NeB q26 q34 := ⟨fun e => by have := lt_of_block h_q26; omega⟩
      have n_q34_q26 := n_q26_q34.symm
      have d_r19_q34 := o_r19.neHi g0_q34
      have d_y24_q34 := o_y24.neHi g0_q34
      have g_q34 : GeB w.heap.size q34 := ⟨Nat.le_trans hB.size g0_q34⟩
      clear g0_q34
      have d_r33_q34 := o_r33.neBoard h_q34
      replace h_q2 := keep_below h_q2 hb_w35
      replace h_q4 := keep_below h_q4 hb_w35
      replace h_q20 := keep_below h_q20 hb_w35
      replace h_q26 := keep_below h_q26 hb_w35
      replace o_r19 := o_r19.below hb_w35
      replace o_y24 := o_y24.below hb_w35
      replace hB := hB.trans (hb_w35.mono hB.size)
      clear hb_w35
      intro op_ ho_ xv_ ρ hρ qx_ ql_ qk_
      obtain rfl := Option.some.inj ho_
      clear ho_
      have e9 : ρ (.tmp 9) = .pointer (some ⟨q34, 0, none⟩) := (hρ.out 7 9 rfl (by rw [hs.size]; decide) rfl).trans ((qx_ 7 (by decide) rfl rfl).trans r7)
      have e36 : ρ (.tmp 36) = bdV S31_r32_r33 ((bdAcc b ok ot oa ob).1) := (hρ.out 5 36 rfl (by rw [hs.size]; decide) rfl).trans ((qx_ 5 (by decide) rfl rfl).trans r5)
      refine g_storeB rfl e9 e36 Try.sizeOf32 rfl rfl h_q34 rfl ?_
      intro w36 W_w36
      replace h_q2 := keep_wrote h_q2 W_w36 n_q34_q2
      replace h_q4 := keep_wrote h_q4 W_w36 n_q34_q4
      replace h_q20 := keep_wrote h_q20 W_w36 n_q34_q20
      replace h_q26 := keep_wrote h_q26 W_w36 n_q34_q26
      replace h_q34 := W_w36.here
      replace o_r19 := o_r19.wrote W_w36 d_r19_q34
      replace o_y24 := o_y24.wrote W_w36 d_y24_q34
      replace o_r33 := o_r33.wrote W_w36 d_r33_q34
      replace hB := below_wrote hB hB.size W_w36 g_q34.le
      clear W_w36
      clear e36 e9
      clear hρ qx_ ql_ qk_
      intro xv_ a15 hρ hsz hdf qx_ ql_ qk_ qlk_
      replace s2 : a15.eval (.tmp 2) = .pointer (some ⟨q2, 0, none⟩) := (hρ.inn 2 rfl).trans s2
      replace s3 : a15.eval (.tmp 3) = .pointer (some ⟨q4, 0, none⟩) := (hρ.inn 3 rfl).trans s3
      replace s4 : a15.eval (.tmp 4) = .bool false := (hρ.inn 4 rfl).trans s4
      replace s6 : a15.eval (.tmp 6) = .pointer (some ⟨q20, 0, none⟩) := (hρ.inn 6 rfl).trans s6
      replace s7 : a15.eval (.tmp 7) = .bool ((bdAcc b ok ot oa ob).2) := (hρ.inn 7 rfl).trans s7
      replace s8 : a15.eval (.tmp 8) = .pointer (some ⟨q26, 0, none⟩) := (hρ.inn 8 rfl).trans s8
      have s9 : a15.eval (.tmp 9) = .pointer (some ⟨q34, 0, none⟩) := (hρ.out 7 9 rfl (by rw [hs.size]; decide)).trans ((qx_ 7 (by decide) rfl rfl).trans r7)
      have s10 : a15.eval (.tmp 10) = .bool ((bdAcc b ok ot oa ob).2) := (hρ.out 9 10 rfl (by rw [hs.size]; decide)).trans (ql_ 9 (by decide) rfl)
      replace hs : St 104 a15 := ⟨hsz.trans hs.size, hdf.trans hs.nodef⟩
      clear hρ hsz hdf qx_ ql_ qk_ qlk_
      refine hK29 _ _ ?_
      clear hK29
      refine wp_seq_k fun K37 hK37 => ?_
      refine wp_seq_k fun K38 hK38 => ?_
      refine wp_region_lit ?_
      refine q_v hs rfl rfl rfl (g_loadB rfl s9 Try.isAgg32 Try.sizeOf32 rfl h_q34 ?_)
      intro a16 p16
      refine q_v p16.s rfl rfl rfl (g_loadB rfl (p16.k s6 rfl) Try.isAgg32 Try.sizeOf32 rfl h_q20 ?_)
      intro a17 p17
      refine q_v p17.s rfl rfl rfl ?_
      refine g_call rfl rfl Try.call25 (arr2 (p17.k p16.v rfl) p17.v) ?_
      refine (eqBoard_same (S := S31_r32_r33) (S2 := S17_r18_r19) (b := (bdAcc b ok ot oa ob).1) _ o_r33.rd o_r19.rd (bdAcc_w hW)).mono ?_
      rintro e w40 ⟨rfl, hb39⟩
      refine ⟨_, rfl, ?_⟩
      replace h_q2 := keep_below h_q2 hb39
      replace h_q4 := keep_below h_q4 hb39
      replace h_q20 := keep_below h_q20 hb39
      replace h_q26 := keep_below h_q26 hb39
      replace h_q34 := keep_below h_q34 hb39
      replace o_r19 := o_r19.below hb39
      replace o_y24 := o_y24.below hb39
      replace o_r33 := o_r33.below hb39
      replace hB := hB.trans (hb39.mono hB.size)
      clear hb39
      intro a18 p18
      refine q_v p18.s rfl rfl rfl (g_not rfl p18.v ?_)
      intro a19 p19
      refine q_v p19.s rfl rfl rfl (g_move rfl p19.v ?_)
      intro a20 p20
      refine q_t p20.s rfl rfl p20.v rfl rfl (g_move rfl (p20.k (p19.k (p18.k (p17.k (p16.k s10 rfl) rfl) rfl) rfl) rfl) ?_)
      intro a21 p21
      refine q_t p21.s rfl rfl (p21.k p20.v rfl) rfl rfl (g_move rfl (p21.k (p20.k (p19.k (p18.k (p17.k (p16.k s7 rfl) rfl) rfl) rfl) rfl) rfl) ?_)
      intro a22 p22
      refine q_t p22.s rfl rfl (p22.k (p21.k p20.v rfl) rfl) rfl rfl (g_neqT rfl Try.underlying4 (p22.k p21.v rfl) p22.v ?_)
      intro a23 p23
      refine q_v p23.s rfl rfl rfl (g_pick_f rfl (p23.k (p22.k (p21.k p20.v rfl) rfl) rfl) p23.v ?_)
      intro a24 p24
      have s46 : a24.eval (.tmp 46) = .bool false := p24.v
      refine wpList_nil ?_
      have kc15 := (((((((((Kps.nil a15).u p16).u p17).u p18).u p19).u p20).u p21).u p22).u p23).u p24
      replace s2 := kc15.k s2 rfl
      replace s3 := kc15.k s3 rfl
      replace s4 := kc15.k s4 rfl
      replace s6 := kc15.k s6 rfl
      replace s7 := kc15.k s7 rfl
      replace s8 := kc15.k s8 rfl
      replace s9 := kc15.k s9 rfl
      replace s10 := kc15.k s10 rfl
      clear kc15
      refine hK38 _ _ ?_
      clear hK38
      refine c_false s46 ?_
      refine wp_skip ?_
      refine hK37 _ _ ?_
      clear hK37
      refine wp_seq_k fun K41 hK41 => ?_
      refine wp_seq_k fun K42 hK42 => ?_
      have hs := p24.s
      refine wp_drawn (n := 104) [] [] [] (fun k_ v_ wx => match k_ with | 0 => v_ = .agg #[.int .i64 b.clk, .slice S24.p.A S24.p.n S24.p.c, .bool b.safe, .slice S24.l.A S24.l.n S24.l.c, .slice S24.o.A S24.o.n S24.o.c, .slice S24.d.A S24.d.n S24.d.c, .int .i64 b.room, .slice S24.r.A S24.r.n S24.r.c, .slice S24.x.A S24.x.n S24.x.c, .int .i64 b.made, .int .i64 b.taken, .slice S24.q.A S24.q.n S24.q.c] | 1 => v_ = .agg #[.int .i64 b.clk, .slice S.p.A S.p.n S.p.c, .bool b.safe, .slice S.l.A S.l.n S.l.c, .slice S.o.A S.o.n S.o.c, .slice S.d.A S.d.n S.d.c, .int .i64 b.room, .slice S.r.A S.r.n S.r.c, .slice S.x.A S.x.n S.x.c, .int .i64 b.made, .int .i64 b.taken, .slice S.q.A S.q.n S.q.c] | 2 => ∃ (S43 : BSl), v_ = bdV S43 b ∧ (OwnB (wx) w40.heap.size S43 b) | 3 => v_ = .bool true | 4 => v_ = .bool false | _ => True) (by kernel_rfl) (by kernel_rfl) (by kernel_rfl) (by kernel_rfl) hs.size ?_ ?_ ?_
      · intro i v wa wb hb hr
        rcases i with _ | _ | _ | _ | _ | i
        · exact hr
        · exact hr
        · obtain ⟨S43, hr, o_y43⟩ := hr; exact ⟨S43, hr, o_y43.below hb⟩
        · exact hr
        · exact hr
        · trivial
      · refine d_step rfl rfl ?_ (d_step rfl rfl ?_ (d_step rfl rfl ?_ (d_step rfl rfl ?_ (d_step rfl rfl ?_ (d_nil)))))
        · intro xv_ wx ρ hρ hwx hd K hK
          have e8 : ρ (.tmp 8) = .pointer (some ⟨q26, 0, none⟩) := (hρ.inn 8 rfl).trans s8
          have h_q26 := keep_below h_q26 hwx
          refine g_loadB rfl e8 Try.isAgg32 Try.sizeOf32 rfl h_q26 ?_
          exact hK _ _ (Below.refl _ _) rfl
        · intro xv_ wx ρ hρ hwx hd K hK
          have e2 : ρ (.tmp 2) = .pointer (some ⟨q2, 0, none⟩) := (hρ.inn 2 rfl).trans s2
          have h_q2 := keep_below h_q2 hwx
          refine g_loadB rfl e2 Try.isAgg62 Try.sizeOf62 rfl h_q2 ?_
          exact hK _ _ (Below.refl _ _) rfl
        · intro xv_ wx ρ hρ hwx hd K hK
          obtain r1 : xv_ 1 = .agg #[.int .i64 b.clk, .slice S.p.A S.p.n S.p.c, .bool b.safe, .slice S.l.A S.l.n S.l.c, .slice S.o.A S.o.n S.o.c, .slice S.d.A S.d.n S.d.c, .int .i64 b.room, .slice S.r.A S.r.n S.r.c, .slice S.x.A S.x.n S.x.c, .int .i64 b.made, .int .i64 b.taken, .slice S.q.A S.q.n S.q.c] := hd 1 rfl
          have e48 : ρ (.tmp 48) = .agg #[.int .i64 b.clk, .slice S.p.A S.p.n S.p.c, .bool b.safe, .slice S.l.A S.l.n S.l.c, .slice S.o.A S.o.n S.o.c, .slice S.d.A S.d.n S.d.c, .int .i64 b.room, .slice S.r.A S.r.n S.r.c, .slice S.x.A S.x.n S.x.c, .int .i64 b.made, .int .i64 b.taken, .slice S.q.A S.q.n S.q.c] := (hρ.out 1 48 rfl (by rw [hs.size]; decide) rfl).trans r1
          refine g_call rfl (hρ.fn _) Try.call24 (arr1 e48) ?_
          refine (toBoard_any (S := S) (b := b) _ ((hr_ab.below hB).below hwx) hW).mono ?_
          rintro e wy ⟨S43, rfl, o_y43, hb43⟩
          exact ⟨_, rfl, hK _ _ hb43 ⟨S43, rfl, o_y43.rebase hwx.size⟩⟩
        · intro xv_ wx ρ hρ hwx hd K hK
          obtain r0 : xv_ 0 = .agg #[.int .i64 b.clk, .slice S24.p.A S24.p.n S24.p.c, .bool b.safe, .slice S24.l.A S24.l.n S24.l.c, .slice S24.o.A S24.o.n S24.o.c, .slice S24.d.A S24.d.n S24.d.c, .int .i64 b.room, .slice S24.r.A S24.r.n S24.r.c, .slice S24.x.A S24.x.n S24.x.c, .int .i64 b.made, .int .i64 b.taken, .slice S24.q.A S24.q.n S24.q.c] := hd 0 rfl
          have e47 : ρ (.tmp 47) = .agg #[.int .i64 b.clk, .slice S24.p.A S24.p.n S24.p.c, .bool b.safe, .slice S24.l.A S24.l.n S24.l.c, .slice S24.o.A S24.o.n S24.o.c, .slice S24.d.A S24.d.n S24.d.c, .int .i64 b.room, .slice S24.r.A S24.r.n S24.r.c, .slice S24.x.A S24.x.n S24.x.c, .int .i64 b.made, .int .i64 b.taken, .slice S24.q.A S24.q.n S24.q.c] := (hρ.out 0 47 rfl (by rw [hs.size]; decide) rfl).trans r0
          obtain ⟨S43, r2, o_y43⟩ : ∃ (S43 : BSl), xv_ 2 = bdV S43 b ∧ (OwnB (wx) w40.heap.size S43 b) := hd 2 rfl
          have e49 : ρ (.tmp 49) = bdV S43 b := (hρ.out 2 49 rfl (by rw [hs.size]; decide) rfl).trans r2
          refine g_call rfl (hρ.fn _) Try.call25 (arr2 e47 e49) ?_
          refine (eqBoard_same (S := S24) (S2 := S43) (b := b) _ (o_y24.rd.below hwx) o_y43.rd hW).mono ?_
          rintro e wy ⟨rfl, hb44⟩
          exact ⟨_, rfl, hK _ _ hb44 rfl⟩
        · intro xv_ wx ρ hρ hwx hd K hK
          obtain r3 : xv_ 3 = .bool true := hd 3 rfl
          have e50 : ρ (.tmp 50) = .bool true := (hρ.out 3 50 rfl (by rw [hs.size]; decide) rfl).trans r3
          refine g_not rfl e50 ?_
          exact hK _ _ (Below.refl _ _) rfl
      · intro x0_ w45 hb_w45 hr0
        obtain r0 : x0_ 0 = .agg #[.int .i64 b.clk, .slice S24.p.A S24.p.n S24.p.c, .bool b.safe, .slice S24.l.A S24.l.n S24.l.c, .slice S24.o.A S24.o.n S24.o.c, .slice S24.d.A S24.d.n S24.d.c, .int .i64 b.room, .slice S24.r.A S24.r.n S24.r.c, .slice S24.x.A S24.x.n S24.x.c, .int .i64 b.made, .int .i64 b.taken, .slice S24.q.A S24.q.n S24.q.c] := hr0 0 (by decide) rfl rfl
        obtain r1 : x0_ 1 = .agg #[.int .i64 b.clk, .slice S.p.A S.p.n S.p.c, .bool b.safe, .slice S.l.A S.l.n S.l.c, .slice S.o.A S.o.n S.o.c, .slice S.d.A S.d.n S.d.c, .int .i64 b.room, .slice S.r.A S.r.n S.r.c, .slice S.x.A S.x.n S.x.c, .int .i64 b.made, .int .i64 b.taken, .slice S.q.A S.q.n S.q.c] := hr0 1 (by decide) rfl rfl
        obtain ⟨S43, r2, o_y43⟩ : ∃ (S43 : BSl), x0_ 2 = bdV S43 b ∧ (OwnB (w45) w40.heap.size S43 b) := hr0 2 (by decide) rfl rfl
        obtain r3 : x0_ 3 = .bool true := hr0 3 (by decide) rfl rfl
        obtain r4 : x0_ 4 = .bool false := hr0 4 (by decide) rfl rfl
        clear hr0
        replace h_q2 := keep_below h_q2 hb_w45
        replace h_q4 := keep_below h_q4 hb_w45
        replace h_q20 := keep_below h_q20 hb_w45
        replace h_q26 := keep_below h_q26 hb_w45
        replace h_q34 := keep_below h_q34 hb_w45
        replace o_r19 := o_r19.below hb_w45
        replace o_y24 := o_y24.below hb_w45
        replace o_r33 := o_r33.below hb_w45
        replace hB := hB.trans (hb_w45.mono hB.size)
        clear hb_w45
        intro xv_ a25 hρ hsz hdf qx_ ql_ qk_ qlk_
        replace s2 : a25.eval (.tmp 2) = .pointer (some ⟨q2, 0, none⟩) := (hρ.inn 2 rfl).trans s2
        replace s3 : a25.eval (.tmp 3) = .pointer (some ⟨q4, 0, none⟩) := (hρ.inn 3 rfl).trans s3
        replace s4 : a25.eval (.tmp 4) = .bool false := (hρ.inn 4 rfl).trans s4
        replace s6 : a25.eval (.tmp 6) = .pointer (some ⟨q20, 0, none⟩) := (hρ.inn 6 rfl).trans s6
        replace s7 : a25.eval (.tmp 7) = .bool ((bdAcc b ok ot oa ob).2) := (hρ.inn 7 rfl).trans s7
        replace s8 : a25.eval (.tmp 8) = .pointer (some ⟨q26, 0, none⟩) := (hρ.inn 8 rfl).trans s8
        replace s9 : a25.eval (.tmp 9) = .pointer (some ⟨q34, 0, none⟩) := (hρ.inn 9 rfl).trans s9
        replace s10 : a25.eval (.tmp 10) = .bool ((bdAcc b ok ot oa ob).2) := (hρ.inn 10 rfl).trans s10
        have s51 : a25.eval (.tmp 51) = .bool false := (hρ.out 4 51 rfl (by rw [hs.size]; decide)).trans ((qx_ 4 (by decide) rfl rfl).trans r4)
        replace hs : St 104 a25 := ⟨hsz.trans hs.size, hdf.trans hs.nodef⟩
        clear hρ hsz hdf qx_ ql_ qk_ qlk_
        refine hK42 _ _ ?_
        clear hK42
        refine c_false s51 ?_
        refine wp_skip ?_
        refine hK41 _ _ ?_
        clear hK41
        refine wp_seq_k fun K46 hK46 => ?_
        refine wp_region_lit ?_
        refine q_v hs rfl rfl rfl (g_assign rfl rfl ?_)
        intro a26 p26
        have s11 : a26.eval (.tmp 11) = .int .i64 1 := p26.v
        refine wpList_nil ?_
        replace s2 := p26.k s2 rfl
        replace s3 := p26.k s3 rfl
        replace s4 := p26.k s4 rfl
        replace s6 := p26.k s6 rfl
        replace s7 := p26.k s7 rfl
        replace s8 := p26.k s8 rfl
        replace s9 := p26.k s9 rfl
        replace s10 := p26.k s10 rfl
        refine hK46 _ _ ?_
        clear hK46
        refine wp_seq_k fun K47 hK47 => ?_
        refine wp_region_lit ?_
        refine q_v p26.s rfl rfl rfl (g_loadB rfl s8 Try.isAgg32 Try.sizeOf32 rfl h_q26 ?_)
        intro a27 p27
        refine q_v p27.s rfl rfl rfl (g_move rfl (p27.k s11 rfl) ?_)
        intro a28 p28
        refine q_v p28.s rfl rfl rfl ?_
        refine g_call rfl rfl Try.call31 (arr2 (p28.k p27.v rfl) p28.v) ?_
        refine (markBoard_any (S := S24) (b := b) (k := 1) _ (by omega) (by omega) hW hB.size o_y24).mono ?_
        rintro e w49 ⟨rfl, oo48, hC48⟩
        refine ⟨_, rfl, ?_⟩
        replace h_q2 := keep_chg h_q2 hC48 d_y24_q2
        replace h_q4 := keep_chg h_q4 hC48 d_y24_q4
        replace h_q20 := keep_chg h_q20 hC48 d_y24_q20
        replace h_q34 := keep_chg h_q34 hC48 d_y24_q34
        replace o_r19 := o_r19.chg hC48 m_r19_y24
        replace o_r33 := o_r33.chg hC48 m_r33_y24
        replace hB := below_chg hB hB.size hC48 o_y24
        clear hC48
        intro a29 p29
        refine q_v p29.s rfl rfl rfl (g_assign rfl p29.v ?_)
        intro a30 p30
        refine wpList_nil ?_
        have kc26 := ((((Kps.nil a26).u p27).u p28).u p29).u p30
        replace s2 := kc26.k s2 rfl
        replace s3 := kc26.k s3 rfl
        replace s4 := kc26.k s4 rfl
        replace s6 := kc26.k s6 rfl
        replace s7 := kc26.k s7 rfl
        replace s9 := kc26.k s9 rfl
        replace s10 := kc26.k s10 rfl
        replace s11 := p30.v
        clear kc26
        refine hK47 _ _ ?_
        clear hK47
        refine wp_seq_k fun K50 hK50 => ?_
        refine wp_seq_k fun K51 hK51 => ?_
        refine wp_region_lit ?_
        refine q_v p30.s rfl rfl rfl (g_move rfl s11 ?_)
        intro a31 p31
        refine q_v p31.s rfl rfl rfl (g_lss rfl p31.v rfl ?_)
        intro a32 p32
        have s56 : a32.eval (.tmp 56) = .bool false := (p32.v).trans (congrArg Value.bool (decide_eq_false (by have := mkN_0 b; have := mkN_0 (bdAcc b ok ot oa ob).1; omega)))
        refine q_v p32.s rfl rfl rfl (g_move rfl s56 ?_)
        intro a33 p33
        refine q_t p33.s rfl rfl p33.v rfl rfl (g_loadB rfl (p33.k (p32.k (p31.k s9 rfl) rfl) rfl) Try.isAgg32 Try.sizeOf32 rfl h_q34 ?_)
        intro a34 p34
        refine q_t p34.s rfl rfl (p34.k p33.v rfl) rfl rfl (g_loadB rfl (p34.k (p33.k (p32.k (p31.k s6 rfl) rfl) rfl) rfl) Try.isAgg32 Try.sizeOf32 rfl h_q20 ?_)
        intro a35 p35
        refine q_t p35.s rfl rfl (p35.k (p34.k p33.v rfl) rfl) rfl rfl ?_
        refine g_call rfl rfl Try.call25 (arr2 (p35.k p34.v rfl) p35.v) ?_
        refine (eqBoard_same (S := S31_r32_r33) (S2 := S17_r18_r19) (b := (bdAcc b ok ot oa ob).1) _ o_r33.rd o_r19.rd (bdAcc_w hW)).mono ?_
        rintro e w53 ⟨rfl, hb52⟩
        refine ⟨_, rfl, ?_⟩
        replace h_q2 := keep_below h_q2 hb52
        replace h_q4 := keep_below h_q4 hb52
        replace h_q20 := keep_below h_q20 hb52
        replace h_q34 := keep_below h_q34 hb52
        replace o_r19 := o_r19.below hb52
        replace o_r33 := o_r33.below hb52
        replace hB := hB.trans (hb52.mono hB.size)
        clear hb52
        intro a36 p36
        refine q_t p36.s rfl rfl (p36.k (p35.k (p34.k p33.v rfl) rfl) rfl) rfl rfl (g_not rfl p36.v ?_)
        intro a37 p37
        refine q_v p37.s rfl rfl rfl (g_pick_f rfl (p37.k (p36.k (p35.k (p34.k p33.v rfl) rfl) rfl) rfl) p37.v ?_)
        intro a38 p38
        have s62 : a38.eval (.tmp 62) = .bool false := p38.v
        refine q_v p38.s rfl rfl rfl (g_move rfl s62 ?_)
        intro a39 p39
        refine q_t p39.s rfl rfl p39.v rfl rfl (g_move rfl (p39.k (p38.k (p37.k (p36.k (p35.k (p34.k (p33.k (p32.k (p31.k s10 rfl) rfl) rfl) rfl) rfl) rfl) rfl) rfl) rfl) ?_)
        intro a40 p40
        refine q_t p40.s rfl rfl (p40.k p39.v rfl) rfl rfl (g_move rfl (p40.k (p39.k (p38.k (p37.k (p36.k (p35.k (p34.k (p33.k (p32.k (p31.k s7 rfl) rfl) rfl) rfl) rfl) rfl) rfl) rfl) rfl) rfl) ?_)
        intro a41 p41
        refine q_t p41.s rfl rfl (p41.k (p40.k p39.v rfl) rfl) rfl rfl (g_neqT rfl Try.underlying4 (p41.k p40.v rfl) p41.v ?_)
        intro a42 p42
        refine q_v p42.s rfl rfl rfl (g_pick_f rfl (p42.k (p41.k (p40.k p39.v rfl) rfl) rfl) p42.v ?_)
        intro a43 p43
        have s67 : a43.eval (.tmp 67) = .bool false := p43.v
        refine wpList_nil ?_
        have kc30 := (((((((((((((Kps.nil a30).u p31).u p32).u p33).u p34).u p35).u p36).u p37).u p38).u p39).u p40).u p41).u p42).u p43
        replace s2 := kc30.k s2 rfl
        replace s3 := kc30.k s3 rfl
        replace s4 := kc30.k s4 rfl
        replace s6 := kc30.k s6 rfl
        replace s7 := kc30.k s7 rfl
        replace s9 := kc30.k s9 rfl
        clear kc30
        refine hK51 _ _ ?_
        clear hK51
        refine c_false s67 ?_
        refine wp_skip ?_
        refine hK50 _ _ ?_
        clear hK50
        refine wp_seq_k fun K54 hK54 => ?_
        refine wp_region_lit ?_
        refine q_v p43.s rfl rfl rfl (g_assign rfl rfl ?_)
        intro a44 p44
        have s12 : a44.eval (.tmp 12) = .int .i64 1 := p44.v
        refine wpList_nil ?_
        replace s2 := p44.k s2 rfl
        replace s3 := p44.k s3 rfl
        replace s4 := p44.k s4 rfl
        replace s6 := p44.k s6 rfl
        replace s7 := p44.k s7 rfl
        replace s9 := p44.k s9 rfl
        refine hK54 _ _ ?_
        clear hK54
        refine wp_seq_k fun K55 hK55 => ?_
        refine wp_region_lit ?_
        refine q_v p44.s rfl rfl rfl (g_loadB rfl s9 Try.isAgg32 Try.sizeOf32 rfl h_q34 ?_)
        intro a45 p45
        refine q_v p45.s rfl rfl rfl (g_move rfl (p45.k s12 rfl) ?_)
        intro a46 p46
        refine q_v p46.s rfl rfl rfl ?_
        refine g_call rfl rfl Try.call31 (arr2 (p46.k p45.v rfl) p46.v) ?_
        refine (markBoard_any (S := S31_r32_r33) (b := (bdAcc b ok ot oa ob).1) (k := 1) _ (by omega) (by omega) (bdAcc_w hW) hB.size o_r33).mono ?_
        rintro e w57 ⟨rfl, oo56, hC56⟩
        refine ⟨_, rfl, ?_⟩
        replace h_q2 := keep_chg h_q2 hC56 d_r33_q2
        replace h_q4 := keep_chg h_q4 hC56 d_r33_q4
        replace h_q20 := keep_chg h_q20 hC56 d_r33_q20
        replace h_q34 := keep_chg h_q34 hC56 d_r33_q34
        replace o_r19 := o_r19.chg hC56 m_r19_r33
        replace hB := below_chg hB hB.size hC56 o_r33
        replace o_r33 := oo56
        clear hC56
        intro a47 p47
        refine q_v p47.s rfl rfl rfl (g_assign rfl p47.v ?_)
        intro a48 p48
        refine wpList_nil ?_
        have kc44 := ((((Kps.nil a44).u p45).u p46).u p47).u p48
        replace s2 := kc44.k s2 rfl
        replace s3 := kc44.k s3 rfl
        replace s4 := kc44.k s4 rfl
        replace s6 := kc44.k s6 rfl
        replace s7 := kc44.k s7 rfl
        replace s9 := kc44.k s9 rfl
        replace s12 := p48.v
        clear kc44
        refine hK55 _ _ ?_
        clear hK55
        refine wp_seq_k fun K58 hK58 => ?_
        refine wp_region_lit ?_
        refine q_v p48.s rfl rfl rfl (g_assign rfl rfl ?_)
        intro a49 p49
        have s13 : a49.eval (.tmp 13) = .int .i64 1 := p49.v
        refine wpList_nil ?_
        replace s2 := p49.k s2 rfl
        replace s3 := p49.k s3 rfl
        replace s4 := p49.k s4 rfl
        replace s6 := p49.k s6 rfl
        replace s7 := p49.k s7 rfl
        replace s9 := p49.k s9 rfl
        replace s12 := p49.k s12 rfl
        refine hK58 _ _ ?_
        clear hK58
        refine wp_seq_k fun K59 hK59 => ?_
        refine wp_region_lit ?_
        refine q_v p49.s rfl rfl rfl (g_loadB rfl s9 Try.isAgg32 Try.sizeOf32 rfl h_q34 ?_)
        intro a50 p50
        refine q_v p50.s rfl rfl rfl (g_move rfl (p50.k s13 rfl) ?_)
        intro a51 p51
        refine q_v p51.s rfl rfl rfl ?_
        refine g_call rfl rfl Try.call32 (arr2 (p51.k p50.v rfl) p51.v) ?_
        refine (heldBoard_any (S := S31_r32_r33) (b := ((bdAcc b ok ot oa ob).1)) (k := 1) _ (by omega) (by omega) (bdAcc_w hW) o_r33.rd).mono ?_
        rintro e w61 ⟨rfl, hb60⟩
        refine ⟨_, rfl, ?_⟩
        replace h_q2 := keep_below h_q2 hb60
        replace h_q4 := keep_below h_q4 hb60
        replace h_q20 := keep_below h_q20 hb60
        replace h_q34 := keep_below h_q34 hb60
        replace o_r19 := o_r19.below hb60
        replace o_r33 := o_r33.below hb60
        replace hB := hB.trans (hb60.mono hB.size)
        clear hb60
        intro a52 p52
        refine q_v p52.s rfl rfl rfl (g_assign rfl p52.v ?_)
        intro a53 p53
        refine wpList_nil ?_
        have kc49 := ((((Kps.nil a49).u p50).u p51).u p52).u p53
        replace s2 := kc49.k s2 rfl
        replace s3 := kc49.k s3 rfl
        replace s4 := kc49.k s4 rfl
        replace s6 := kc49.k s6 rfl
        replace s7 := kc49.k s7 rfl
        replace s9 := kc49.k s9 rfl
        replace s12 := kc49.k s12 rfl
        replace s13 := p53.v
        clear kc49
        refine hK59 _ _ ?_
        clear hK59
        refine wp_seq_k fun K62 hK62 => ?_
        refine wp_seq_k fun K63 hK63 => ?_
        refine wp_region_lit ?_
        refine q_v p53.s rfl rfl rfl (g_move rfl s13 ?_)
        intro a54 p54
        refine q_v p54.s rfl rfl rfl (g_lss rfl p54.v rfl ?_)
        intro a55 p55
        have s75 : a55.eval (.tmp 75) = .bool false := (p55.v).trans (congrArg Value.bool (decide_eq_false (by have := mkN_0 b; have := mkN_0 (bdAcc b ok ot oa ob).1; omega)))
        refine wpList_nil ?_
        replace s2 := p55.k (p54.k s2 rfl) rfl
        replace s3 := p55.k (p54.k s3 rfl) rfl
        replace s4 := p55.k (p54.k s4 rfl) rfl
        replace s6 := p55.k (p54.k s6 rfl) rfl
        replace s7 := p55.k (p54.k s7 rfl) rfl
        replace s9 := p55.k (p54.k s9 rfl) rfl
        replace s12 := p55.k (p54.k s12 rfl) rfl
        replace s13 := p55.k (p54.k s13 rfl) rfl
        refine hK63 _ _ ?_
        clear hK63
        refine c_false s75 ?_
        refine wp_skip ?_
        refine hK62 _ _ ?_
        clear hK62
        refine wp_seq_k fun K64 hK64 => ?_
        refine wp_seq_k fun K65 hK65 => ?_
        refine wp_region_lit ?_
        refine q_v p55.s rfl rfl rfl (g_move rfl s13 ?_)
        intro a56 p56
        refine q_v p56.s rfl rfl rfl (g_move rfl (p56.k s12 rfl) ?_)
        intro a57 p57
        refine q_v p57.s rfl rfl rfl (g_neq rfl (p57.k p56.v rfl) p57.v ?_)
        intro a58 p58
        have s78 : a58.eval (.tmp 78) = .bool false := (p58.v).trans (congrArg (fun b => Value.bool (!b)) (decide_eq_true rfl))
        refine wpList_nil ?_
        have kc55 := (((Kps.nil a55).u p56).u p57).u p58
        replace s2 := kc55.k s2 rfl
        replace s3 := kc55.k s3 rfl
        replace s4 := kc55.k s4 rfl
        replace s6 := kc55.k s6 rfl
        replace s7 := kc55.k s7 rfl
        replace s9 := kc55.k s9 rfl
        replace s12 := kc55.k s12 rfl
        replace s13 := kc55.k s13 rfl
        clear kc55
        refine hK65 _ _ ?_
        clear hK65
        refine c_false s78 ?_
        refine wp_skip ?_
        refine hK64 _ _ ?_
        clear hK64
        refine wp_seq_k fun K66 hK66 => ?_
        have hs := p58.s
        refine wp_drawn (n := 104) [7, 10] [9] [] (fun k_ v_ wx => match k_ with | 0 => v_ = .agg #[.int .i64 b.clk, .slice S.p.A S.p.n S.p.c, .bool b.safe, .slice S.l.A S.l.n S.l.c, .slice S.o.A S.o.n S.o.c, .slice S.d.A S.d.n S.d.c, .int .i64 b.room, .slice S.r.A S.r.n S.r.c, .slice S.x.A S.x.n S.x.c, .int .i64 b.made, .int .i64 b.taken, .slice S.q.A S.q.n S.q.c] | 1 => ∃ (S67 : BSl), v_ = bdV S67 b ∧ (OwnB (wx) w61.heap.size S67 b) | 2 => v_ = .agg #[.int .i64 ok, .int .i64 ot, .int .i64 oa, .int .i64 ob] | 3 => v_ = .agg #[.int .i64 ok, .int .i64 ot, .int .i64 oa, .int .i64 ob] | 4 => ∃ (S69 : BSl), v_ = .tuple #[bdV S69 ((bdAcc b ok ot oa ob).1), .bool ((bdAcc b ok ot oa ob).2)] ∧ (OwnB (wx) w61.heap.size S69 ((bdAcc b ok ot oa ob).1)) | 5 => ∃ (S69_r70 : BSl), v_ = .tuple #[bdV S69_r70 ((bdAcc b ok ot oa ob).1), .bool ((bdAcc b ok ot oa ob).2)] ∧ (OwnB (wx) w61.heap.size S69_r70 ((bdAcc b ok ot oa ob).1)) | 6 => ∃ (S69_r70_r71 : BSl), v_ = bdV S69_r70_r71 ((bdAcc b ok ot oa ob).1) ∧ (OwnB (wx) w61.heap.size S69_r70_r71 ((bdAcc b ok ot oa ob).1)) | 7 => v_ = .bool ((bdAcc b ok ot oa ob).2) | 8 => ∃ q72, v_ = .pointer (some ⟨q72, 0, none⟩) ∧ w61.heap.size ≤ q72 ∧ wx.heap[q72]? = some (.cells #[.int .i64 0, .slice none 0 0, .bool false, .slice none 0 0, .slice none 0 0, .slice none 0 0, .int .i64 0, .slice none 0 0, .slice none 0 0, .int .i64 0, .int .i64 0, .slice none 0 0] 32 (0, 0)) | 10 => v_ = .bool ((bdAcc b ok ot oa ob).2) | _ => True) (by kernel_rfl) (by kernel_rfl) (by kernel_rfl) (by kernel_rfl) hs.size ?_ ?_ ?_
        · intro i v wa wb hb hr
          rcases i with _ | _ | _ | _ | _ | _ | _ | _ | _ | _ | _ | i
          · exact hr
          · obtain ⟨S67, hr, o_y67⟩ := hr; exact ⟨S67, hr, o_y67.below hb⟩
          · exact hr
          · exact hr
          · obtain ⟨S69, hr, o_y69⟩ := hr; exact ⟨S69, hr, o_y69.below hb⟩
          · obtain ⟨S69_r70, hr, o_r70⟩ := hr; exact ⟨S69_r70, hr, o_r70.below hb⟩
          · obtain ⟨S69_r70_r71, hr, o_r71⟩ := hr; exact ⟨S69_r70_r71, hr, o_r71.below hb⟩
          · exact hr
          · obtain ⟨q72, hr, hg, hh⟩ := hr; exact ⟨q72, hr, hg, keep_below hh hb⟩
          · trivial
          · exact hr
          · trivial
        · refine d_step rfl rfl ?_ (d_step rfl rfl ?_ (d_step rfl rfl ?_ (d_step rfl rfl ?_ (d_step rfl rfl ?_ (d_step rfl rfl ?_ (d_step rfl rfl ?_ (d_late rfl rfl ?_ (d_step rfl rfl ?_ (d_chain rfl (d_late rfl rfl ?_ (d_nil)))))))))))
          · intro xv_ wx ρ hρ hwx hd K hK
            have e2 : ρ (.tmp 2) = .pointer (some ⟨q2, 0, none⟩) := (hρ.inn 2 rfl).trans s2
            have h_q2 := keep_below h_q2 hwx
            refine g_loadB rfl e2 Try.isAgg62 Try.sizeOf62 rfl h_q2 ?_
            exact hK _ _ (Below.refl _ _) rfl
          · intro xv_ wx ρ hρ hwx hd K hK
            obtain r0 : xv_ 0 = .agg #[.int .i64 b.clk, .slice S.p.A S.p.n S.p.c, .bool b.safe, .slice S.l.A S.l.n S.l.c, .slice S.o.A S.o.n S.o.c, .slice S.d.A S.d.n S.d.c, .int .i64 b.room, .slice S.r.A S.r.n S.r.c, .slice S.x.A S.x.n S.x.c, .int .i64 b.made, .int .i64 b.taken, .slice S.q.A S.q.n S.q.c] := hd 0 rfl
            have e80 : ρ (.tmp 80) = .agg #[.int .i64 b.clk, .slice S.p.A S.p.n S.p.c, .bool b.safe, .slice S.l.A S.l.n S.l.c, .slice S.o.A S.o.n S.o.c, .slice S.d.A S.d.n S.d.c, .int .i64 b.room, .slice S.r.A S.r.n S.r.c, .slice S.x.A S.x.n S.x.c, .int .i64 b.made, .int .i64 b.taken, .slice S.q.A S.q.n S.q.c] := (hρ.out 0 80 rfl (by rw [hs.size]; decide) rfl).trans r0
            refine g_call rfl (hρ.fn _) Try.call24 (arr1 e80) ?_
            refine (toBoard_any (S := S) (b := b) _ ((hr_ab.below hB).below hwx) hW).mono ?_
            rintro e wy ⟨S67, rfl, o_y67, hb67⟩
            exact ⟨_, rfl, hK _ _ hb67 ⟨S67, rfl, o_y67.rebase hwx.size⟩⟩
          · intro xv_ wx ρ hρ hwx hd K hK
            have e3 : ρ (.tmp 3) = .pointer (some ⟨q4, 0, none⟩) := (hρ.inn 3 rfl).trans s3
            have h_q4 := keep_below h_q4 hwx
            refine g_loadB rfl e3 Try.isAgg73 Try.sizeOf73 rfl h_q4 ?_
            exact hK _ _ (Below.refl _ _) rfl
          · intro xv_ wx ρ hρ hwx hd K hK
            obtain r2 : xv_ 2 = .agg #[.int .i64 ok, .int .i64 ot, .int .i64 oa, .int .i64 ob] := hd 2 rfl
            have e82 : ρ (.tmp 82) = .agg #[.int .i64 ok, .int .i64 ot, .int .i64 oa, .int .i64 ob] := (hρ.out 2 82 rfl (by rw [hs.size]; decide) rfl).trans r2
            refine g_call rfl (hρ.fn _) Try.call34 (arr1 e82) ?_
            refine (toOrder_any _ _ _ _ _).mono ?_
            rintro e wy ⟨rfl, hb68⟩
            exact ⟨_, rfl, hK _ _ hb68 rfl⟩
          · intro xv_ wx ρ hρ hwx hd K hK
            obtain ⟨S67, r1, o_y67⟩ : ∃ (S67 : BSl), xv_ 1 = bdV S67 b ∧ (OwnB (wx) w61.heap.size S67 b) := hd 1 rfl
            have e81 : ρ (.tmp 81) = bdV S67 b := (hρ.out 1 81 rfl (by rw [hs.size]; decide) rfl).trans r1
            obtain r3 : xv_ 3 = .agg #[.int .i64 ok, .int .i64 ot, .int .i64 oa, .int .i64 ob] := hd 3 rfl
            have e83 : ρ (.tmp 83) = .agg #[.int .i64 ok, .int .i64 ot, .int .i64 oa, .int .i64 ob] := (hρ.out 3 83 rfl (by rw [hs.size]; decide) rfl).trans r3
            refine g_call rfl (hρ.fn _) Try.call13 (arr2 e81 e83) ?_
            refine (acceptOrder_any (S := S67) (b := b) _ o_y67.rd hW).mono ?_
            rintro e wy ⟨S69, rfl, o_y69, hb69⟩
            exact ⟨_, rfl, hK _ _ hb69 ⟨S69, rfl, o_y69.rebase hwx.size⟩⟩
          · intro xv_ wx ρ hρ hwx hd K hK
            obtain ⟨S69, r4, o_y69⟩ : ∃ (S69 : BSl), xv_ 4 = .tuple #[bdV S69 ((bdAcc b ok ot oa ob).1), .bool ((bdAcc b ok ot oa ob).2)] ∧ (OwnB (wx) w61.heap.size S69 ((bdAcc b ok ot oa ob).1)) := hd 4 rfl
            have e84 : ρ (.tmp 84) = .tuple #[bdV S69 ((bdAcc b ok ot oa ob).1), .bool ((bdAcc b ok ot oa ob).2)] := (hρ.out 4 84 rfl (by rw [hs.size]; decide) rfl).trans r4
            refine g_move rfl e84 ?_
            exact hK _ _ (Below.refl _ _) ⟨S69, rfl, o_y69⟩
          · intro xv_ wx ρ hρ hwx hd K hK
            obtain ⟨S69_r70, r5, o_r70⟩ : ∃ (S69_r70 : BSl), xv_ 5 = .tuple #[bdV S69_r70 ((bdAcc b ok ot oa ob).1), .bool ((bdAcc b ok ot oa ob).2)] ∧ (OwnB (wx) w61.heap.size S69_r70 ((bdAcc b ok ot oa ob).1)) := hd 5 rfl
            have e79 : ρ (.tmp 79) = .tuple #[bdV S69_r70 ((bdAcc b ok ot oa ob).1), .bool ((bdAcc b ok ot oa ob).2)] := (hρ.out 5 79 rfl (by rw [hs.size]; decide) rfl).trans r5
            refine g_extract rfl e79 rfl ?_
            exact hK _ _ (Below.refl _ _) ⟨S69_r70, rfl, o_r70⟩
          · intro xv_ wx ρ hρ hwx hd
            obtain ⟨S69_r70, r5, o_r70⟩ : ∃ (S69_r70 : BSl), xv_ 5 = .tuple #[bdV S69_r70 ((bdAcc b ok ot oa ob).1), .bool ((bdAcc b ok ot oa ob).2)] ∧ (OwnB (wx) w61.heap.size S69_r70 ((bdAcc b ok ot oa ob).1)) := hd 5 rfl rfl
            have e79 : ρ (.tmp 79) = .tuple #[bdV S69_r70 ((bdAcc b ok ot oa ob).1), .bool ((bdAcc b ok ot oa ob).2)] := (hρ.out 5 79 rfl (by rw [hs.size]; decide) rfl).trans r5
            exact ⟨_, fun w' => l_extract rfl e79 rfl, rfl⟩
          · intro xv_ wx ρ hρ hwx hd K hK
            refine g_alloc rfl Try.zeroValue32 rfl ?_
            intro q w' N
            exact hK _ _ N.below ⟨q, rfl, Nat.le_trans hwx.size N.lo, N.here⟩
          · intro xv_ wx ρ hρ hwx hd
            obtain r7 : xv_ 7 = .bool ((bdAcc b ok ot oa ob).2) := hd 7 rfl rfl
            have e86 : ρ (.tmp 86) = .bool ((bdAcc b ok ot oa ob).2) := (hρ.out 7 86 rfl (by rw [hs.size]; decide) rfl).trans r7
            exact ⟨_, fun w' => l_assign rfl e86, rfl⟩
        · intro x0_ w73 hb_w73 hr0
          obtain r0 : x0_ 0 = .agg #[.int .i64 b.clk, .slice S.p.A S.p.n S.p.c, .bool b.safe, .slice S.l.A S.l.n S.l.c, .slice S.o.A S.o.n S.o.c, .slice S.d.A S.d.n S.d.c, .int .i64 b.room, .slice S.r.A S.r.n S.r.c, .slice S.x.A S.x.n S.x.c, .int .i64 b.made, .int .i64 b.taken, .slice S.q.A S.q.n S.q.c] := hr0 0 (by decide) rfl rfl
          obtain ⟨S67, r1, o_y67⟩ : ∃ (S67 : BSl), x0_ 1 = bdV S67 b ∧ (OwnB (w73) w61.heap.size S67 b) := hr0 1 (by decide) rfl rfl
          obtain r2 : x0_ 2 = .agg #[.int .i64 ok, .int .i64 ot, .int .i64 oa, .int .i64 ob] := hr0 2 (by decide) rfl rfl
          obtain r3 : x0_ 3 = .agg #[.int .i64 ok, .int .i64 ot, .int .i64 oa, .int .i64 ob] := hr0 3 (by decide) rfl rfl
          obtain ⟨S69, r4, o_y69⟩ : ∃ (S69 : BSl), x0_ 4 = .tuple #[bdV S69 ((bdAcc b ok ot oa ob).1), .bool ((bdAcc b ok ot oa ob).2)] ∧ (OwnB (w73) w61.heap.size S69 ((bdAcc b ok ot oa ob).1)) := hr0 4 (by decide) rfl rfl
          obtain ⟨S69_r70, r5, o_r70⟩ : ∃ (S69_r70 : BSl), x0_ 5 = .tuple #[bdV S69_r70 ((bdAcc b ok ot oa ob).1), .bool ((bdAcc b ok ot oa ob).2)] ∧ (OwnB (w73) w61.heap.size S69_r70 ((bdAcc b ok ot oa ob).1)) := hr0 5 (by decide) rfl rfl
          obtain ⟨S69_r70_r71, r6, o_r71⟩ : ∃ (S69_r70_r71 : BSl), x0_ 6 = bdV S69_r70_r71 ((bdAcc b ok ot oa ob).1) ∧ (OwnB (w73) w61.heap.size S69_r70_r71 ((bdAcc b ok ot oa ob).1)) := hr0 6 (by decide) rfl rfl
          obtain ⟨q72, r8, g0_q72, h_q72⟩ : ∃ q72, x0_ 8 = .pointer (some ⟨q72, 0, none⟩) ∧ w61.heap.size ≤ q72 ∧ w73.heap[q72]? = some (.cells #[.int .i64 0, .slice none 0 0, .bool false, .slice none 0 0, .slice none 0 0, .slice none 0 0, .int .i64 0, .slice none 0 0, .slice none 0 0, .int .i64 0, .int .i64 0, .slice none 0 0] 32 (0, 0)) := hr0 8 (by decide) rfl rfl
          clear hr0
          replace o_r71 := o_r71.rebase hB.size
          have n_q20_q72 : NeB q20 q72 := ⟨fun e => by have := lt_of_block h_q20; omega⟩
          have n_q72_q20 := n_q20_q72.symm
          have n_q34_q72 : NeB q34 q72 := ⟨fun e => by have := lt_of_block h_q34; omega⟩
          have n_q72_q34 := n_q34_q72.symm
          have d_r19_q72 := o_r19.neHi g0_q72
          have d_r33_q72 := o_r33.neHi g0_q72
          have g_q72 : GeB w.heap.size q72 := ⟨Nat.le_trans hB.size g0_q72⟩
          clear g0_q72
          have d_r71_q72 := o_r71.neBoard h_q72
          replace h_q20 := keep_below h_q20 hb_w73
          replace h_q34 := keep_below h_q34 hb_w73
          replace o_r19 := o_r19.below hb_w73
          replace o_r33 := o_r33.below hb_w73
          replace hB := hB.trans (hb_w73.mono hB.size)
          clear hb_w73
          intro op_ ho_ xv_ ρ hρ qx_ ql_ qk_
          obtain rfl := Option.some.inj ho_
          clear ho_
          have e14 : ρ (.tmp 14) = .pointer (some ⟨q72, 0, none⟩) := (hρ.out 8 14 rfl (by rw [hs.size]; decide) rfl).trans ((qx_ 8 (by decide) rfl rfl).trans r8)
          have e85 : ρ (.tmp 85) = bdV S69_r70_r71 ((bdAcc b ok ot oa ob).1) := (hρ.out 6 85 rfl (by rw [hs.size]; decide) rfl).trans ((qx_ 6 (by decide) rfl rfl).trans r6)
          refine g_storeB rfl e14 e85 Try.sizeOf32 rfl rfl h_q72 rfl ?_
          intro w74 W_w74
          replace h_q20 := keep_wrote h_q20 W_w74 n_q72_q20
          replace h_q34 := keep_wrote h_q34 W_w74 n_q72_q34
          replace h_q72 := W_w74.here
          replace o_r19 := o_r19.wrote W_w74 d_r19_q72
          replace o_r33 := o_r33.wrote W_w74 d_r33_q72
          replace o_r71 := o_r71.wrote W_w74 d_r71_q72
          replace hB := below_wrote hB hB.size W_w74 g_q72.le
          clear W_w74
          clear e14 e85
          clear hρ qx_ ql_ qk_
          intro xv_ a59 hρ hsz hdf qx_ ql_ qk_ qlk_
          replace s4 : a59.eval (.tmp 4) = .bool false := (hρ.inn 4 rfl).trans s4
          replace s6 : a59.eval (.tmp 6) = .pointer (some ⟨q20, 0, none⟩) := (hρ.inn 6 rfl).trans s6
          replace s7 : a59.eval (.tmp 7) = .bool ((bdAcc b ok ot oa ob).2) := (hρ.inn 7 rfl).trans s7
          replace s9 : a59.eval (.tmp 9) = .pointer (some ⟨q34, 0, none⟩) := (hρ.inn 9 rfl).trans s9
          replace s12 : a59.eval (.tmp 12) = .int .i64 (1 + mkN ((bdAcc b ok ot oa ob).1)) := (hρ.inn 12 rfl).trans s12
          replace s13 : a59.eval (.tmp 13) = .int .i64 (1 + mkN ((bdAcc b ok ot oa ob).1)) := (hρ.inn 13 rfl).trans s13
          have s14 : a59.eval (.tmp 14) = .pointer (some ⟨q72, 0, none⟩) := (hρ.out 8 14 rfl (by rw [hs.size]; decide)).trans ((qx_ 8 (by decide) rfl rfl).trans r8)
          have s15 : a59.eval (.tmp 15) = .bool ((bdAcc b ok ot oa ob).2) := (hρ.out 10 15 rfl (by rw [hs.size]; decide)).trans (ql_ 10 (by decide) rfl)
          replace hs : St 104 a59 := ⟨hsz.trans hs.size, hdf.trans hs.nodef⟩
          clear hρ hsz hdf qx_ ql_ qk_ qlk_
          refine hK66 _ _ ?_
          clear hK66
          refine wp_seq_k fun K75 hK75 => ?_
          refine wp_seq_k fun K76 hK76 => ?_
          refine wp_region_lit ?_
          refine q_v hs rfl rfl rfl (g_loadB rfl s14 Try.isAgg32 Try.sizeOf32 rfl h_q72 ?_)
          intro a60 p60
          refine q_v p60.s rfl rfl rfl (g_loadB rfl (p60.k s6 rfl) Try.isAgg32 Try.sizeOf32 rfl h_q20 ?_)
          intro a61 p61
          refine q_v p61.s rfl rfl rfl ?_
          refine g_call rfl rfl Try.call25 (arr2 (p61.k p60.v rfl) p61.v) ?_
          refine (eqBoard_same (S := S69_r70_r71) (S2 := S17_r18_r19) (b := (bdAcc b ok ot oa ob).1) _ o_r71.rd o_r19.rd (bdAcc_w hW)).mono ?_
          rintro e w78 ⟨rfl, hb77⟩
          refine ⟨_, rfl, ?_⟩
          replace h_q34 := keep_below h_q34 hb77
          replace o_r33 := o_r33.below hb77
          replace hB := hB.trans (hb77.mono hB.size)
          clear hb77
          intro a62 p62
          refine q_v p62.s rfl rfl rfl (g_not rfl p62.v ?_)
          intro a63 p63
          refine q_v p63.s rfl rfl rfl (g_move rfl p63.v ?_)
          intro a64 p64
          refine q_t p64.s rfl rfl p64.v rfl rfl (g_move rfl (p64.k (p63.k (p62.k (p61.k (p60.k s15 rfl) rfl) rfl) rfl) rfl) ?_)
          intro a65 p65
          refine q_t p65.s rfl rfl (p65.k p64.v rfl) rfl rfl (g_move rfl (p65.k (p64.k (p63.k (p62.k (p61.k (p60.k s7 rfl) rfl) rfl) rfl) rfl) rfl) ?_)
          intro a66 p66
          refine q_t p66.s rfl rfl (p66.k (p65.k p64.v rfl) rfl) rfl rfl (g_neqT rfl Try.underlying4 (p66.k p65.v rfl) p66.v ?_)
          intro a67 p67
          refine q_v p67.s rfl rfl rfl (g_pick_f rfl (p67.k (p66.k (p65.k p64.v rfl) rfl) rfl) p67.v ?_)
          intro a68 p68
          have s95 : a68.eval (.tmp 95) = .bool false := p68.v
          refine wpList_nil ?_
          have kc59 := (((((((((Kps.nil a59).u p60).u p61).u p62).u p63).u p64).u p65).u p66).u p67).u p68
          replace s4 := kc59.k s4 rfl
          replace s9 := kc59.k s9 rfl
          replace s12 := kc59.k s12 rfl
          replace s13 := kc59.k s13 rfl
          clear kc59
          refine hK76 _ _ ?_
          clear hK76
          refine c_false s95 ?_
          refine wp_skip ?_
          refine hK75 _ _ ?_
          clear hK75
          refine wp_seq_k fun K79 hK79 => ?_
          refine wp_region_lit ?_
          refine q_v p68.s rfl rfl rfl (g_assign rfl rfl ?_)
          intro a69 p69
          have s13 : a69.eval (.tmp 13) = .int .i64 1 := p69.v
          refine wpList_nil ?_
          replace s4 := p69.k s4 rfl
          replace s9 := p69.k s9 rfl
          replace s12 := p69.k s12 rfl
          refine hK79 _ _ ?_
          clear hK79
          refine wp_seq_k fun K80 hK80 => ?_
          refine wp_region_lit ?_
          refine q_v p69.s rfl rfl rfl (g_loadB rfl s9 Try.isAgg32 Try.sizeOf32 rfl h_q34 ?_)
          intro a70 p70
          refine q_v p70.s rfl rfl rfl (g_move rfl (p70.k s13 rfl) ?_)
          intro a71 p71
          refine q_v p71.s rfl rfl rfl ?_
          refine g_call rfl rfl Try.call32 (arr2 (p71.k p70.v rfl) p71.v) ?_
          refine (heldBoard_any (S := S31_r32_r33) (b := ((bdAcc b ok ot oa ob).1)) (k := 1) _ (by omega) (by omega) (bdAcc_w hW) o_r33.rd).mono ?_
          rintro e w82 ⟨rfl, hb81⟩
          refine ⟨_, rfl, ?_⟩
          replace hB := hB.trans (hb81.mono hB.size)
          clear hb81
          intro a72 p72
          refine q_v p72.s rfl rfl rfl (g_assign rfl p72.v ?_)
          intro a73 p73
          refine wpList_nil ?_
          have kc69 := ((((Kps.nil a69).u p70).u p71).u p72).u p73
          replace s4 := kc69.k s4 rfl
          replace s12 := kc69.k s12 rfl
          replace s13 := p73.v
          clear kc69
          refine hK80 _ _ ?_
          clear hK80
          refine wp_seq_k fun K83 hK83 => ?_
          refine wp_seq_k fun K84 hK84 => ?_
          refine wp_region_lit ?_
          refine q_v p73.s rfl rfl rfl (g_move rfl s13 ?_)
          intro a74 p74
          refine q_v p74.s rfl rfl rfl (g_lss rfl p74.v rfl ?_)
          intro a75 p75
          have s100 : a75.eval (.tmp 100) = .bool false := (p75.v).trans (congrArg Value.bool (decide_eq_false (by have := mkN_0 b; have := mkN_0 (bdAcc b ok ot oa ob).1; omega)))
          refine wpList_nil ?_
          replace s4 := p75.k (p74.k s4 rfl) rfl
          replace s12 := p75.k (p74.k s12 rfl) rfl
          replace s13 := p75.k (p74.k s13 rfl) rfl
          refine hK84 _ _ ?_
          clear hK84
          refine c_false s100 ?_
          refine wp_skip ?_
          refine hK83 _ _ ?_
          clear hK83
          refine wp_seq_k fun K85 hK85 => ?_
          refine wp_seq_k fun K86 hK86 => ?_
          refine wp_region_lit ?_
          refine q_v p75.s rfl rfl rfl (g_move rfl s13 ?_)
          intro a76 p76
          refine q_v p76.s rfl rfl rfl (g_move rfl (p76.k s12 rfl) ?_)
          intro a77 p77
          refine q_v p77.s rfl rfl rfl (g_neq rfl (p77.k p76.v rfl) p77.v ?_)
          intro a78 p78
          have s103 : a78.eval (.tmp 103) = .bool false := (p78.v).trans (congrArg (fun b => Value.bool (!b)) (decide_eq_true rfl))
          refine wpList_nil ?_
          replace s4 := p78.k (p77.k (p76.k s4 rfl) rfl) rfl
          refine hK86 _ _ ?_
          clear hK86
          refine c_false s103 ?_
          refine wp_skip ?_
          refine hK85 _ _ ?_
          clear hK85
          refine wp_seq_k fun K87 hK87 => ?_
          refine wp_region_lit ?_
          refine q_v p78.s rfl rfl rfl (g_assign rfl rfl ?_)
          intro a79 p79
          have s4 : a79.eval (.tmp 4) = .bool true := p79.v
          refine wpList_nil ?_
          refine hK87 _ _ ?_
          clear hK87
          refine wp_ret ?_
          try dsimp only [Exit.then, Exit.inBlock]
          refine ret1 p79.s Try.results7 (res_tmp s4) ?_
          exact ⟨rfl, hB⟩

/-! ### The row's step, written by a program of ours (frame.py) -/
namespace fnExactAcceptOrderDone
open Go.ChangeShapes Go.WideShapes Go.ChangeAt
open Go.ChangeMaps (open_string)
theorem own : ownKnob Try.prog.godebug = none := by kernel_rfl
theorem laidOut : laidOutB Try.prog = true := by kernel_rfl
set_option maxRecDepth 100000 in
theorem lifted (os : Os) (started : os.Started) (H : Type) (enc : TypeId × Value → H) :
    ReturnsInHanded {} Try.checked os 7 .any (Rows.fnExactAcceptOrderSpec.pre6 enc Try.prog Try.f7 Rows.fnExactAcceptOrderRow.domain false) (Rows.fnExactAcceptOrderSpec.post enc Try.prog Try.f7 false true false false) := by
  refine returnsInHanded_of_change (C := Try.checked) own started (by kernel_rfl) Try.func7
    (ChangeSpec.witness6 (enc := enc) (C := Try.checked) false ⟨#[], #[.agg #[.int .i64 0, .slice none 0 0, .bool false, .slice none 0 0, .slice none 0 0, .slice none 0 0, .int .i64 0, .slice none 0 0, .slice none 0 0, .int .i64 0, .int .i64 0, .slice none 0 0], .agg #[.int .i64 0, .int .i64 0, .int .i64 0, .int .i64 0]], []⟩ 8 (by kernel_rfl) (by kernel_rfl) (by kernel_rfl) (by kernel_rfl)) ?_
  intro W base args ds gs before hval0 hW hcnd _
  have hval : ∀ (j : Nat) t v, Try.f7.params[j]? = some t → args[j]? = some v → Value.okWide Try.prog W .any base t v := hval0
  have hW' := hW
  obtain ⟨p, q, hA0, hV, rfl, hfz, hnd⟩ := hW
  have hA : DataW.TrodAll enc Try.prog W 0 (fun _ => true) true Try.f7.params.toList args.toList ds p := hA0
  rw [Try.params7] at hA hval
  obtain ⟨v0, vs0, d0, ds0, p0, q0, hargs, rfl, rfl, h0, r0⟩ := trodAll_cons hA
  obtain ⟨v1, vs1, d1, ds1, p1, q1, rfl, rfl, rfl, h1, r1⟩ := trodAll_cons r0
  obtain ⟨rfl, rfl, rfl⟩ := trodAll_nil r1
  obtain rfl : args = #[v0, v1] := by cases args; simp_all
  obtain ⟨rfl, rfl⟩ := trodVars_none hV
  have k0 := h0
  have lt0 : ∀ x ∈ p0, x.block < W.heap.size := by obtain ⟨m, hm⟩ := k0; exact DataW.trod_lt m _ _ _ hm
  have k1 := h1
  have lt1 : ∀ x ∈ p1, x.block < W.heap.size := by obtain ⟨m, hm⟩ := k1; exact DataW.trod_lt m _ _ _ hm
  obtain ⟨cs0, rfl, _⟩ := okWide_struct Try.underlying62 (hval 0 62 v0 rfl rfl)
  obtain ⟨fuel0, hf0⟩ := h0
  obtain ⟨S0, b0, hcs0, hR0, hL0, hT0⟩ := open_Board hf0
  obtain ⟨cs0⟩ := cs0
  simp only [Value.cells] at hcs0
  subst hcs0
  obtain ⟨cs1, rfl, _⟩ := okWide_struct Try.underlying73 (hval 1 73 v1 rfl rfl)
  obtain ⟨fuel1, hf1⟩ := h1
  obtain ⟨x1a, x1b, x1c, x1d, hcs1, hx1a, hx1b, hx1c, hx1d⟩ := open_Order hf1
  obtain ⟨cs1⟩ := cs1
  simp only [Value.cells] at hcs1
  subst hcs1
  clear hA0 hval0
  refine (fnExactAcceptOrder_walk (w := W) (S := S0) (b := b0) hR0 hL0 hT0 x1a x1b x1c x1d hx1a hx1b hx1c hx1d).mono fun e W' ⟨he, bel⟩ => ?_
  subst he
  exact ⟨_, rfl, _, _, _, [], _, [], hW', trodAll_mk1 (shut_bool Try.underlying4 _), (trodAll_cons_mk (Below.trod laidOut (by kernel_rfl) (of_decide_eq_true (by kernel_rfl)) k0 bel lt0) (trodAll_cons_mk (Below.trod laidOut (by kernel_rfl) (of_decide_eq_true (by kernel_rfl)) k1 bel lt1) trodAll_mk0)), rfl, bel.frame _, fun h => by cases h⟩
theorem proved : Rows.FnExactAcceptOrderSaid :=
  OpenClaim.holds_of_wide 7 Try.f7 rfl rfl rfl rfl rfl rfl rfl ⟨rfl, rfl, rfl, rfl, rfl⟩ rfl rfl rfl rfl rfl (by kernel_rfl) Try.func7 (by kernel_rfl)
    (of_decide_eq_true (by kernel_rfl)) (by unfold Func.isWrapper; first | (rw [if_pos (by decide +kernel)]; kernel_rfl) | (rw [if_neg (by decide +kernel)]; exact ⟨rfl, rfl⟩))
    (fun os started H enc _ => lifted os started H enc)
end fnExactAcceptOrderDone
end Go.Proofs.Ytoccapmoehdohaa
