/- The program's BoardOk returns what the reference's returns, for all arguments. No condition. -/
import Derived.Test.YtoccapmoehdohaaBdBun
import Derived.Test.YtoccapmoehdohaaBdOkS
import Derived.Test.YtoccapmoehdohaaBdArg
namespace Go.Proofs.Ytoccapmoehdohaa
open Go.RowKit
set_option linter.unusedSimpArgs false
set_option linter.unusedVariables false

set_option maxRecDepth 100000 in
set_option maxHeartbeats 8000000 in
theorem fnExactBoardOk_walk {w : World} {S : BSl} {b : EBoard} (hR : RdL w S b) (hL : BdL S) (hT : ∀ z ∈ b.rs, Txt z.f3) :
    Calls Try.prog 5 #[bdV S b] w fun e w' => e = .returned (.bool true) ∧ Below w.heap.size w w' := by
  have hr_ab := hR
  refine enter 27 Try.func5 rfl rfl (Nat.le_of_ble_eq_true rfl) ?_
  intro a0 hs hargs
  have s0 : a0.eval (.tmp 0) = bdV S b := hargs 0 _ rfl
  clear hargs
  have hB : Below w.heap.size w w := Below.refl _ _
  refine wp_seq_k fun K1 hK1 => ?_
  refine wp_region_lit ?_
  refine q_v hs rfl rfl rfl ?_
  refine g_box rfl s0 rfl ?_
  intro q2 w3 N_q2
  have g_q2 : GeB w.heap.size q2 := ⟨Nat.le_trans hB.size N_q2.lo⟩
  replace hB := below_new hB hB.size N_q2
  have h_q2 := N_q2.here
  clear N_q2
  intro a1 p1
  refine q_v p1.s rfl rfl rfl (g_assign rfl rfl ?_)
  intro a2 p2
  have s2 : a2.eval (.tmp 2) = .bool false := p2.v
  refine wpList_nil ?_
  replace s1 := p2.k p1.v rfl
  refine hK1 _ _ ?_
  clear hK1
  refine wp_seq_k fun K4 hK4 => ?_
  refine wp_region_lit ?_
  refine q_v p2.s rfl rfl rfl (g_assign rfl rfl ?_)
  intro a3 p3
  have s3 : a3.eval (.tmp 3) = .int .i64 1048576 := p3.v
  refine wpList_nil ?_
  replace s1 := p3.k s1 rfl
  replace s2 := p3.k s2 rfl
  refine hK4 _ _ ?_
  clear hK4
  refine wp_seq_k fun K5 hK5 => ?_
  refine wp_region_lit ?_
  refine q_v p3.s rfl rfl rfl (g_loadB rfl s1 Try.isAgg62 Try.sizeOf62 rfl h_q2 ?_)
  intro a4 p4
  refine q_v p4.s rfl rfl rfl (g_move rfl (p4.k s3 rfl) ?_)
  intro a5 p5
  refine q_v p5.s rfl rfl rfl ?_
  refine g_call rfl rfl Try.call22 (arr2 (p5.k p4.v rfl) p5.v) ?_
  refine (szBoard_any (S := S) (b := b) _ _ (hr_ab.below hB) hL hT (by omega) (by omega)).mono ?_
  rintro e w7 ⟨q, rfl, hq0, hq1, hb6⟩
  refine ⟨_, rfl, ?_⟩
  replace h_q2 := keep_below h_q2 hb6
  replace hB := hB.trans (hb6.mono hB.size)
  clear hb6
  intro a6 p6
  refine q_v p6.s rfl rfl rfl (g_assign rfl p6.v ?_)
  intro a7 p7
  refine wpList_nil ?_
  have kc3 := ((((Kps.nil a3).u p4).u p5).u p6).u p7
  replace s1 := kc3.k s1 rfl
  replace s2 := kc3.k s2 rfl
  replace s3 := p7.v
  clear kc3
  refine hK5 _ _ ?_
  clear hK5
  refine wp_seq_k fun K8 hK8 => ?_
  refine wp_seq_k fun K9 hK9 => ?_
  refine wp_region_lit ?_
  refine q_v p7.s rfl rfl rfl (g_move rfl s3 ?_)
  intro a8 p8
  refine q_v p8.s rfl rfl rfl (g_lss rfl p8.v rfl ?_)
  intro a9 p9
  refine wpList_nil ?_
  replace s1 := p9.k (p8.k s1 rfl) rfl
  replace s2 := p9.k (p8.k s2 rfl) rfl
  replace s11 := p9.v
  refine hK9 _ _ ?_
  clear hK9
  by_cases hc10 : q < 0
  · replace s11 : a9.eval (.tmp 11) = .bool true := (s11).trans (congrArg Value.bool (decide_eq_true hc10))
    refine c_true s11 ?_
    refine wp_seq_k fun K11 hK11 => ?_
    refine wp_region_lit ?_
    refine q_v p9.s rfl rfl rfl (g_assign rfl rfl ?_)
    intro a10 p10
    have s2 : a10.eval (.tmp 2) = .bool true := p10.v
    refine wpList_nil ?_
    replace s1 := p10.k s1 rfl
    refine hK11 _ _ ?_
    clear hK11
    refine wp_ret ?_
    try dsimp only [Exit.then, Exit.inBlock]
    refine ret1 p10.s Try.results5 (res_tmp s2) ?_
    exact ⟨rfl, hB⟩
  replace s11 : a9.eval (.tmp 11) = .bool false := (s11).trans (congrArg Value.bool (decide_eq_false hc10))
  refine c_false s11 ?_
  refine wp_skip ?_
  refine hK8 _ _ ?_
  clear hK8
  refine wp_seq_k fun K12 hK12 => ?_
  have hW := hq1 (by omega)
  refine wp_region_lit ?_
  refine q_v p9.s rfl rfl rfl (g_loadB rfl s1 Try.isAgg62 Try.sizeOf62 rfl h_q2 ?_)
  intro a10 p10
  refine q_v p10.s rfl rfl rfl ?_
  refine g_call rfl rfl Try.call24 (arr1 p10.v) ?_
  refine (toBoard_any (S := S) (b := b) _ (hr_ab.below hB) hW).mono ?_
  rintro e w14 ⟨S13, rfl, o_y13, hb13⟩
  refine ⟨_, rfl, ?_⟩
  have d_y13_q2 := o_y13.neBox (lt_of_block h_q2)
  replace o_y13 := o_y13.rebase hB.size
  replace h_q2 := keep_below h_q2 hb13
  replace hB := hB.trans (hb13.mono hB.size)
  clear hb13
  intro a11 p11
  refine q_v p11.s rfl rfl rfl ?_
  refine g_call rfl rfl Try.call23 (arr1 p11.v) ?_
  refine (sBoardOk_any (S := S13) (b := b) _ o_y13.rd hW).mono ?_
  rintro e w16 ⟨rfl, hb15⟩
  refine ⟨_, rfl, ?_⟩
  replace h_q2 := keep_below h_q2 hb15
  replace o_y13 := o_y13.below hb15
  replace hB := hB.trans (hb15.mono hB.size)
  clear hb15
  intro a12 p12
  refine q_v p12.s rfl rfl rfl (g_assign rfl p12.v ?_)
  intro a13 p13
  refine wpList_nil ?_
  have kc9 := ((((Kps.nil a9).u p10).u p11).u p12).u p13
  replace s1 := kc9.k s1 rfl
  replace s2 := kc9.k s2 rfl
  replace s4 := p13.v
  clear kc9
  refine hK12 _ _ ?_
  clear hK12
  refine wp_seq_k fun K17 hK17 => ?_
  refine wp_region_lit ?_
  refine q_v p13.s rfl rfl rfl (g_loadB rfl s1 Try.isAgg62 Try.sizeOf62 rfl h_q2 ?_)
  intro a14 p14
  refine q_v p14.s rfl rfl rfl ?_
  refine g_call rfl rfl Try.call24 (arr1 p14.v) ?_
  refine (toBoard_any (S := S) (b := b) _ (hr_ab.below hB) hW).mono ?_
  rintro e w19 ⟨S18, rfl, o_y18, hb18⟩
  refine ⟨_, rfl, ?_⟩
  have d_y18_q2 := o_y18.neBox (lt_of_block h_q2)
  have m_y13_y18 := o_y13.apart o_y18 (Nat.le_refl _)
  have m_y18_y13 := m_y13_y18.symm
  replace o_y18 := o_y18.rebase hB.size
  replace h_q2 := keep_below h_q2 hb18
  replace o_y13 := o_y13.below hb18
  replace hB := hB.trans (hb18.mono hB.size)
  clear hb18
  intro a15 p15
  refine q_v p15.s rfl rfl rfl ?_
  refine g_alloc rfl Try.zeroValue32 rfl ?_
  intro q20 w21 N_q20
  have n_q2_q20 := N_q20.ne ⟨lt_of_block h_q2⟩
  have n_q20_q2 := n_q2_q20.symm
  have d_y13_q20 := o_y13.neNew N_q20
  have d_y18_q20 := o_y18.neNew N_q20
  have g_q20 : GeB w.heap.size q20 := ⟨Nat.le_trans hB.size N_q20.lo⟩
  replace h_q2 := keep_below h_q2 N_q20.below
  replace o_y13 := o_y13.below N_q20.below
  replace o_y18 := o_y18.below N_q20.below
  replace hB := below_new hB hB.size N_q20
  have h_q20 := N_q20.here
  clear N_q20
  intro a16 p16
  refine q_eff rfl rfl ?_
  refine g_storeB rfl p16.v (p16.k p15.v rfl) Try.sizeOf32 rfl rfl h_q20 rfl ?_
  intro w22 W_w22
  replace h_q2 := keep_wrote h_q2 W_w22 n_q20_q2
  replace h_q20 := W_w22.here
  replace o_y13 := o_y13.wrote W_w22 d_y13_q20
  replace o_y18 := o_y18.wrote W_w22 d_y18_q20
  replace hB := below_wrote hB hB.size W_w22 g_q20.le
  clear W_w22
  refine wpList_nil ?_
  have kc13 := (((Kps.nil a13).u p14).u p15).u p16
  replace s1 := kc13.k s1 rfl
  replace s2 := kc13.k s2 rfl
  replace s4 := kc13.k s4 rfl
  replace s5 := p16.v
  clear kc13
  refine hK17 _ _ ?_
  clear hK17
  refine wp_seq_k fun K23 hK23 => ?_
  refine wp_region_lit ?_
  refine q_v p16.s rfl rfl rfl (g_loadB rfl s5 Try.isAgg32 Try.sizeOf32 rfl h_q20 ?_)
  intro a17 p17
  refine q_v p17.s rfl rfl rfl ?_
  refine g_call rfl rfl Try.call21 (arr1 p17.v) ?_
  refine (boardOk_any (S := S18) (b := b) _ o_y18.rd hW).mono ?_
  rintro e w25 ⟨rfl, hb24⟩
  refine ⟨_, rfl, ?_⟩
  replace h_q2 := keep_below h_q2 hb24
  replace h_q20 := keep_below h_q20 hb24
  replace o_y13 := o_y13.below hb24
  replace o_y18 := o_y18.below hb24
  replace hB := hB.trans (hb24.mono hB.size)
  clear hb24
  intro a18 p18
  refine q_v p18.s rfl rfl rfl (g_assign rfl p18.v ?_)
  intro a19 p19
  refine wpList_nil ?_
  have kc16 := (((Kps.nil a16).u p17).u p18).u p19
  replace s1 := kc16.k s1 rfl
  replace s2 := kc16.k s2 rfl
  replace s4 := kc16.k s4 rfl
  replace s5 := kc16.k s5 rfl
  replace s6 := p19.v
  clear kc16
  refine hK23 _ _ ?_
  clear hK23
  refine wp_seq_k fun K26 hK26 => ?_
  refine wp_seq_k fun K27 hK27 => ?_
  refine wp_region_lit ?_
  refine q_v p19.s rfl rfl rfl (g_move rfl s6 ?_)
  intro a20 p20
  refine q_v p20.s rfl rfl rfl (g_move rfl (p20.k s4 rfl) ?_)
  intro a21 p21
  refine q_v p21.s rfl rfl rfl (g_neqT rfl Try.underlying4 (p21.k p20.v rfl) p21.v ?_)
  intro a22 p22
  refine wpList_nil ?_
  have kc19 := (((Kps.nil a19).u p20).u p21).u p22
  replace s1 := kc19.k s1 rfl
  replace s2 := kc19.k s2 rfl
  replace s5 := kc19.k s5 rfl
  replace s21 := p22.v
  clear kc19
  refine hK27 _ _ ?_
  clear hK27
  refine c_false s21 ?_
  refine wp_skip ?_
  refine hK26 _ _ ?_
  clear hK26
  refine wp_seq_k fun K28 hK28 => ?_
  refine wp_seq_k fun K29 hK29 => ?_
  have hs := p22.s
  refine wp_drawn (n := 27) [] [] [] (fun k_ v_ wx => match k_ with | 0 => v_ = .agg #[.int .i64 b.clk, .slice S18.p.A S18.p.n S18.p.c, .bool b.safe, .slice S18.l.A S18.l.n S18.l.c, .slice S18.o.A S18.o.n S18.o.c, .slice S18.d.A S18.d.n S18.d.c, .int .i64 b.room, .slice S18.r.A S18.r.n S18.r.c, .slice S18.x.A S18.x.n S18.x.c, .int .i64 b.made, .int .i64 b.taken, .slice S18.q.A S18.q.n S18.q.c] | 1 => v_ = .agg #[.int .i64 b.clk, .slice S.p.A S.p.n S.p.c, .bool b.safe, .slice S.l.A S.l.n S.l.c, .slice S.o.A S.o.n S.o.c, .slice S.d.A S.d.n S.d.c, .int .i64 b.room, .slice S.r.A S.r.n S.r.c, .slice S.x.A S.x.n S.x.c, .int .i64 b.made, .int .i64 b.taken, .slice S.q.A S.q.n S.q.c] | 2 => ∃ (S30 : BSl), v_ = bdV S30 b ∧ (OwnB (wx) w25.heap.size S30 b) | 3 => v_ = .bool true | 4 => v_ = .bool false | _ => True) (by kernel_rfl) (by kernel_rfl) (by kernel_rfl) (by kernel_rfl) hs.size ?_ ?_ ?_
  · intro i v wa wb hb hr
    rcases i with _ | _ | _ | _ | _ | i
    · exact hr
    · exact hr
    · obtain ⟨S30, hr, o_y30⟩ := hr; exact ⟨S30, hr, o_y30.below hb⟩
    · exact hr
    · exact hr
    · trivial
  · refine d_step rfl rfl ?_ (d_step rfl rfl ?_ (d_step rfl rfl ?_ (d_step rfl rfl ?_ (d_step rfl rfl ?_ (d_nil)))))
    · intro xv_ wx ρ hρ hwx hd K hK
      have e5 : ρ (.tmp 5) = .pointer (some ⟨q20, 0, none⟩) := (hρ.inn 5 rfl).trans s5
      have h_q20 := keep_below h_q20 hwx
      refine g_loadB rfl e5 Try.isAgg32 Try.sizeOf32 rfl h_q20 ?_
      exact hK _ _ (Below.refl _ _) rfl
    · intro xv_ wx ρ hρ hwx hd K hK
      have e1 : ρ (.tmp 1) = .pointer (some ⟨q2, 0, none⟩) := (hρ.inn 1 rfl).trans s1
      have h_q2 := keep_below h_q2 hwx
      refine g_loadB rfl e1 Try.isAgg62 Try.sizeOf62 rfl h_q2 ?_
      exact hK _ _ (Below.refl _ _) rfl
    · intro xv_ wx ρ hρ hwx hd K hK
      obtain r1 : xv_ 1 = .agg #[.int .i64 b.clk, .slice S.p.A S.p.n S.p.c, .bool b.safe, .slice S.l.A S.l.n S.l.c, .slice S.o.A S.o.n S.o.c, .slice S.d.A S.d.n S.d.c, .int .i64 b.room, .slice S.r.A S.r.n S.r.c, .slice S.x.A S.x.n S.x.c, .int .i64 b.made, .int .i64 b.taken, .slice S.q.A S.q.n S.q.c] := hd 1 rfl
      have e23 : ρ (.tmp 23) = .agg #[.int .i64 b.clk, .slice S.p.A S.p.n S.p.c, .bool b.safe, .slice S.l.A S.l.n S.l.c, .slice S.o.A S.o.n S.o.c, .slice S.d.A S.d.n S.d.c, .int .i64 b.room, .slice S.r.A S.r.n S.r.c, .slice S.x.A S.x.n S.x.c, .int .i64 b.made, .int .i64 b.taken, .slice S.q.A S.q.n S.q.c] := (hρ.out 1 23 rfl (by rw [hs.size]; decide) rfl).trans r1
      refine g_call rfl (hρ.fn _) Try.call24 (arr1 e23) ?_
      refine (toBoard_any (S := S) (b := b) _ ((hr_ab.below hB).below hwx) hW).mono ?_
      rintro e wy ⟨S30, rfl, o_y30, hb30⟩
      exact ⟨_, rfl, hK _ _ hb30 ⟨S30, rfl, o_y30.rebase hwx.size⟩⟩
    · intro xv_ wx ρ hρ hwx hd K hK
      obtain r0 : xv_ 0 = .agg #[.int .i64 b.clk, .slice S18.p.A S18.p.n S18.p.c, .bool b.safe, .slice S18.l.A S18.l.n S18.l.c, .slice S18.o.A S18.o.n S18.o.c, .slice S18.d.A S18.d.n S18.d.c, .int .i64 b.room, .slice S18.r.A S18.r.n S18.r.c, .slice S18.x.A S18.x.n S18.x.c, .int .i64 b.made, .int .i64 b.taken, .slice S18.q.A S18.q.n S18.q.c] := hd 0 rfl
      have e22 : ρ (.tmp 22) = .agg #[.int .i64 b.clk, .slice S18.p.A S18.p.n S18.p.c, .bool b.safe, .slice S18.l.A S18.l.n S18.l.c, .slice S18.o.A S18.o.n S18.o.c, .slice S18.d.A S18.d.n S18.d.c, .int .i64 b.room, .slice S18.r.A S18.r.n S18.r.c, .slice S18.x.A S18.x.n S18.x.c, .int .i64 b.made, .int .i64 b.taken, .slice S18.q.A S18.q.n S18.q.c] := (hρ.out 0 22 rfl (by rw [hs.size]; decide) rfl).trans r0
      obtain ⟨S30, r2, o_y30⟩ : ∃ (S30 : BSl), xv_ 2 = bdV S30 b ∧ (OwnB (wx) w25.heap.size S30 b) := hd 2 rfl
      have e24 : ρ (.tmp 24) = bdV S30 b := (hρ.out 2 24 rfl (by rw [hs.size]; decide) rfl).trans r2
      refine g_call rfl (hρ.fn _) Try.call25 (arr2 e22 e24) ?_
      refine (eqBoard_same (S := S18) (S2 := S30) (b := b) _ (o_y18.rd.below hwx) o_y30.rd hW).mono ?_
      rintro e wy ⟨rfl, hb31⟩
      exact ⟨_, rfl, hK _ _ hb31 rfl⟩
    · intro xv_ wx ρ hρ hwx hd K hK
      obtain r3 : xv_ 3 = .bool true := hd 3 rfl
      have e25 : ρ (.tmp 25) = .bool true := (hρ.out 3 25 rfl (by rw [hs.size]; decide) rfl).trans r3
      refine g_not rfl e25 ?_
      exact hK _ _ (Below.refl _ _) rfl
  · intro x0_ w32 hb_w32 hr0
    obtain r0 : x0_ 0 = .agg #[.int .i64 b.clk, .slice S18.p.A S18.p.n S18.p.c, .bool b.safe, .slice S18.l.A S18.l.n S18.l.c, .slice S18.o.A S18.o.n S18.o.c, .slice S18.d.A S18.d.n S18.d.c, .int .i64 b.room, .slice S18.r.A S18.r.n S18.r.c, .slice S18.x.A S18.x.n S18.x.c, .int .i64 b.made, .int .i64 b.taken, .slice S18.q.A S18.q.n S18.q.c] := hr0 0 (by decide) rfl rfl
    obtain r1 : x0_ 1 = .agg #[.int .i64 b.clk, .slice S.p.A S.p.n S.p.c, .bool b.safe, .slice S.l.A S.l.n S.l.c, .slice S.o.A S.o.n S.o.c, .slice S.d.A S.d.n S.d.c, .int .i64 b.room, .slice S.r.A S.r.n S.r.c, .slice S.x.A S.x.n S.x.c, .int .i64 b.made, .int .i64 b.taken, .slice S.q.A S.q.n S.q.c] := hr0 1 (by decide) rfl rfl
    obtain ⟨S30, r2, o_y30⟩ : ∃ (S30 : BSl), x0_ 2 = bdV S30 b ∧ (OwnB (w32) w25.heap.size S30 b) := hr0 2 (by decide) rfl rfl
    obtain r3 : x0_ 3 = .bool true := hr0 3 (by decide) rfl rfl
    obtain r4 : x0_ 4 = .bool false := hr0 4 (by decide) rfl rfl
    clear hr0
    replace h_q2 := keep_below h_q2 hb_w32
    replace h_q20 := keep_below h_q20 hb_w32
    replace o_y13 := o_y13.below hb_w32
    replace o_y18 := o_y18.below hb_w32
    replace hB := hB.trans (hb_w32.mono hB.size)
    clear hb_w32
    intro xv_ a23 hρ hsz hdf qx_ ql_ qk_ qlk_
    replace s2 : a23.eval (.tmp 2) = .bool false := (hρ.inn 2 rfl).trans s2
    have s26 : a23.eval (.tmp 26) = .bool false := (hρ.out 4 26 rfl (by rw [hs.size]; decide)).trans ((qx_ 4 (by decide) rfl rfl).trans r4)
    replace hs : St 27 a23 := ⟨hsz.trans hs.size, hdf.trans hs.nodef⟩
    clear hρ hsz hdf qx_ ql_ qk_ qlk_
    refine hK29 _ _ ?_
    clear hK29
    refine c_false s26 ?_
    refine wp_skip ?_
    refine hK28 _ _ ?_
    clear hK28
    refine wp_seq_k fun K33 hK33 => ?_
    refine wp_region_lit ?_
    refine q_v hs rfl rfl rfl (g_assign rfl rfl ?_)
    intro a24 p24
    have s2 : a24.eval (.tmp 2) = .bool true := p24.v
    refine wpList_nil ?_
    refine hK33 _ _ ?_
    clear hK33
    refine wp_ret ?_
    try dsimp only [Exit.then, Exit.inBlock]
    refine ret1 p24.s Try.results5 (res_tmp s2) ?_
    exact ⟨rfl, hB⟩

/-! ### The row's step, written by a program of ours (frame.py) -/
namespace fnExactBoardOkDone
open Go.ChangeShapes Go.WideShapes Go.ChangeAt
open Go.ChangeMaps (open_string)
theorem own : ownKnob Try.prog.godebug = none := by kernel_rfl
theorem laidOut : laidOutB Try.prog = true := by kernel_rfl
set_option maxRecDepth 100000 in
theorem lifted (os : Os) (started : os.Started) (H : Type) (enc : TypeId × Value → H) :
    ReturnsInHanded {} Try.checked os 5 .any (Rows.fnExactBoardOkSpec.pre6 enc Try.prog Try.f5 Rows.fnExactBoardOkRow.domain false) (Rows.fnExactBoardOkSpec.post enc Try.prog Try.f5 false true false false) := by
  refine returnsInHanded_of_change (C := Try.checked) own started (by kernel_rfl) Try.func5
    (ChangeSpec.witness6 (enc := enc) (C := Try.checked) false ⟨#[], #[.agg #[.int .i64 0, .slice none 0 0, .bool false, .slice none 0 0, .slice none 0 0, .slice none 0 0, .int .i64 0, .slice none 0 0, .slice none 0 0, .int .i64 0, .int .i64 0, .slice none 0 0]], []⟩ 8 (by kernel_rfl) (by kernel_rfl) (by kernel_rfl) (by kernel_rfl)) ?_
  intro W base args ds gs before hval0 hW hcnd _
  have hval : ∀ (j : Nat) t v, Try.f5.params[j]? = some t → args[j]? = some v → Value.okWide Try.prog W .any base t v := hval0
  have hW' := hW
  obtain ⟨p, q, hA0, hV, rfl, hfz, hnd⟩ := hW
  have hA : DataW.TrodAll enc Try.prog W 0 (fun _ => true) true Try.f5.params.toList args.toList ds p := hA0
  rw [Try.params5] at hA hval
  obtain ⟨v0, vs0, d0, ds0, p0, q0, hargs, rfl, rfl, h0, r0⟩ := trodAll_cons hA
  obtain ⟨rfl, rfl, rfl⟩ := trodAll_nil r0
  obtain rfl : args = #[v0] := by cases args; simp_all
  obtain ⟨rfl, rfl⟩ := trodVars_none hV
  have k0 := h0
  have lt0 : ∀ x ∈ p0, x.block < W.heap.size := by obtain ⟨m, hm⟩ := k0; exact DataW.trod_lt m _ _ _ hm
  obtain ⟨cs0, rfl, _⟩ := okWide_struct Try.underlying62 (hval 0 62 v0 rfl rfl)
  obtain ⟨fuel0, hf0⟩ := h0
  obtain ⟨S0, b0, hcs0, hR0, hL0, hT0⟩ := open_Board hf0
  obtain ⟨cs0⟩ := cs0
  simp only [Value.cells] at hcs0
  subst hcs0
  clear hA0 hval0
  refine (fnExactBoardOk_walk (w := W) (S := S0) (b := b0) hR0 hL0 hT0).mono fun e W' ⟨he, bel⟩ => ?_
  subst he
  exact ⟨_, rfl, _, _, _, [], _, [], hW', trodAll_mk1 (shut_bool Try.underlying4 _), (trodAll_cons_mk (Below.trod laidOut (by kernel_rfl) (of_decide_eq_true (by kernel_rfl)) k0 bel lt0) trodAll_mk0), rfl, bel.frame _, fun h => by cases h⟩
theorem proved : Rows.FnExactBoardOkSaid :=
  OpenClaim.holds_of_wide 5 Try.f5 rfl rfl rfl rfl rfl rfl rfl ⟨rfl, rfl, rfl, rfl, rfl⟩ rfl rfl rfl rfl rfl (by kernel_rfl) Try.func5 (by kernel_rfl)
    (of_decide_eq_true (by kernel_rfl)) (by unfold Func.isWrapper; first | (rw [if_pos (by decide +kernel)]; kernel_rfl) | (rw [if_neg (by decide +kernel)]; exact ⟨rfl, rfl⟩))
    (fun os started H enc _ => lifted os started H enc)
end fnExactBoardOkDone
end Go.Proofs.Ytoccapmoehdohaa
