/- Contract: an order is accepted, in the reference. No condition. -/
import Derived.Test.YtoccapmoehdohaaBdAcc
import Derived.Test.YtoccapmoehdohaaApp0
namespace Go.Proofs.Ytoccapmoehdohaa
open Go.RowKit
set_option linter.unusedSimpArgs false
set_option linter.unusedVariables false

set_option maxRecDepth 100000 in
set_option maxHeartbeats 4000000 in
theorem sAcceptOrder_any {S : BSl} {b : EBoard} {ok ot oa ob : Int} (w : World) (hR : RdB w S b) (hW : BdW b) :
    Calls Try.prog 33 #[bdV S b, .agg #[.int .i64 ok, .int .i64 ot, .int .i64 oa, .int .i64 ob]] w fun e w' => ∃ S', e = .returned (.tuple #[bdV S' (bdAcc b ok ot oa ob).1, .bool (bdAcc b ok ot oa ob).2]) ∧ OwnB w' w.heap.size S' (bdAcc b ok ot oa ob).1 ∧ Below w.heap.size w w' := by
  obtain ⟨⟨pA, pn, pc⟩, ⟨lA, ln, lc⟩, ⟨oA, on, oc⟩, ⟨dA, dn, dc⟩, ⟨rA, rn, rc⟩, ⟨xA, xn, xc⟩, ⟨qA, qn, qc⟩⟩ := S
  obtain ⟨⟨hr_p, hl_p, hnn_p, hnc_p⟩, ⟨hr_l, hl_l, hnn_l, hnc_l⟩, ⟨hr_o, hl_o, hnn_o, hnc_o⟩, ⟨hr_d, hl_d, hnn_d, hnc_d⟩, ⟨hr_r, hl_r, hnn_r, hnc_r⟩, ⟨hr_x, hl_x, hnn_x, hnc_x⟩, ⟨hr_q, hl_q, hnn_q, hnc_q⟩⟩ := hR
  change b.ps.length = pn at hl_p
  subst pn
  change Rd _ 1 pA b.ps.length (b.ps.flatMap cI) at hr_p
  change pA = none → b.ps.length = 0 ∧ pc = 0 at hnn_p
  change b.ps.length ≤ pc at hnc_p
  change b.ls.length = ln at hl_l
  subst ln
  change Rd _ 3 lA b.ls.length (b.ls.flatMap cLimit) at hr_l
  change lA = none → b.ls.length = 0 ∧ lc = 0 at hnn_l
  change b.ls.length ≤ lc at hnc_l
  change b.os.length = on at hl_o
  subst on
  change Rd _ 5 oA b.os.length (b.os.flatMap cWaiting) at hr_o
  change oA = none → b.os.length = 0 ∧ oc = 0 at hnn_o
  change b.os.length ≤ oc at hnc_o
  change b.ds.length = dn at hl_d
  subst dn
  change Rd _ 3 dA b.ds.length (b.ds.flatMap cDone) at hr_d
  change dA = none → b.ds.length = 0 ∧ dc = 0 at hnn_d
  change b.ds.length ≤ dc at hnc_d
  change b.rs.length = rn at hl_r
  subst rn
  change Rd _ 4 rA b.rs.length (b.rs.flatMap cRecord) at hr_r
  change rA = none → b.rs.length = 0 ∧ rc = 0 at hnn_r
  change b.rs.length ≤ rc at hnc_r
  change b.xs.length = xn at hl_x
  subst xn
  change Rd _ 1 xA b.xs.length (b.xs.flatMap cI) at hr_x
  change xA = none → b.xs.length = 0 ∧ xc = 0 at hnn_x
  change b.xs.length ≤ xc at hnc_x
  change b.qs.length = qn at hl_q
  subst qn
  change Rd _ 1 qA b.qs.length (b.qs.flatMap cI) at hr_q
  change qA = none → b.qs.length = 0 ∧ qc = 0 at hnn_q
  change b.qs.length ≤ qc at hnc_q
  have hW1 := hW.ps
  have hW2 := hW.ls
  have hW3 := hW.os
  have hW4 := hW.ds
  have hW5 := hW.rs
  have hW6 := hW.xs
  have hW7 := hW.qs
  refine enter 86 Try.func33 rfl rfl (Nat.le_of_ble_eq_true rfl) ?_
  intro a0 hs hargs
  have s0 : a0.eval (.tmp 0) = .agg #[.int .i64 b.clk, .slice pA b.ps.length pc, .bool b.safe, .slice lA b.ls.length lc, .slice oA b.os.length oc, .slice dA b.ds.length dc, .int .i64 b.room, .slice rA b.rs.length rc, .slice xA b.xs.length xc, .int .i64 b.made, .int .i64 b.taken, .slice qA b.qs.length qc] := hargs 0 _ rfl
  have s1 : a0.eval (.tmp 1) = .agg #[.int .i64 ok, .int .i64 ot, .int .i64 oa, .int .i64 ob] := hargs 1 _ rfl
  clear hargs
  have hB : Below w.heap.size w w := Below.refl _ _
  refine wp_seq_k fun K1 hK1 => ?_
  refine wp_region_lit ?_
  refine q_v hs rfl rfl rfl ?_
  refine g_box rfl s0 rfl ?_
  intro q2 w3 N_q2
  replace hB := below_new hB hB.size N_q2
  have h_q2 := N_q2.here
  clear N_q2
  intro a1 p1
  refine q_v p1.s rfl rfl rfl ?_
  refine g_box rfl (p1.k s1 rfl) rfl ?_
  intro q4 w5 N_q4
  replace h_q2 := keep_below h_q2 N_q4.below
  replace hB := below_new hB hB.size N_q4
  have h_q4 := N_q4.here
  clear N_q4
  intro a2 p2
  refine q_v p2.s rfl rfl rfl ?_
  refine g_alloc rfl Try.zeroValue32 rfl ?_
  intro q6 w7 N_q6
  have n_q2_q6 := N_q6.ne ⟨lt_of_block h_q2⟩
  have n_q6_q2 := n_q2_q6.symm
  have n_q4_q6 := N_q6.ne ⟨lt_of_block h_q4⟩
  have n_q6_q4 := n_q4_q6.symm
  have g_q6 : GeB w.heap.size q6 := ⟨Nat.le_trans hB.size N_q6.lo⟩
  replace h_q2 := keep_below h_q2 N_q6.below
  replace h_q4 := keep_below h_q4 N_q6.below
  replace hB := below_new hB hB.size N_q6
  have h_q6 := N_q6.here
  clear N_q6
  intro a3 p3
  refine q_v p3.s rfl rfl rfl (g_assign rfl rfl ?_)
  intro a4 p4
  have s5 : a4.eval (.tmp 5) = .bool false := p4.v
  refine wpList_nil ?_
  replace s2 := p4.k (p3.k (p2.k p1.v rfl) rfl) rfl
  replace s3 := p4.k (p3.k p2.v rfl) rfl
  replace s4 := p4.k p3.v rfl
  refine hK1 _ _ ?_
  clear hK1
  refine wp_seq_k fun K8 hK8 => ?_
  refine wp_region_lit ?_
  refine q_v p4.s rfl rfl rfl (g_loadB rfl s2 Try.isAgg32 Try.sizeOf32 rfl h_q2 ?_)
  intro a5 p5
  refine q_v p5.s rfl rfl rfl ?_
  refine g_call rfl rfl Try.call80 (arr1 p5.v) ?_
  refine (copyBoard_any (S := (⟨⟨pA, b.ps.length, pc⟩, ⟨lA, b.ls.length, lc⟩, ⟨oA, b.os.length, oc⟩, ⟨dA, b.ds.length, dc⟩, ⟨rA, b.rs.length, rc⟩, ⟨xA, b.xs.length, xc⟩, ⟨qA, b.qs.length, qc⟩⟩ : BSl)) (b := b) _ ⟨⟨(hr_p.below hB), rfl, hnn_p, hnc_p⟩, ⟨(hr_l.below hB), rfl, hnn_l, hnc_l⟩, ⟨(hr_o.below hB), rfl, hnn_o, hnc_o⟩, ⟨(hr_d.below hB), rfl, hnn_d, hnc_d⟩, ⟨(hr_r.below hB), rfl, hnn_r, hnc_r⟩, ⟨(hr_x.below hB), rfl, hnn_x, hnc_x⟩, ⟨(hr_q.below hB), rfl, hnn_q, hnc_q⟩⟩ hW).mono ?_
  rintro e w10 ⟨⟨⟨pA9, pn9, pc9⟩, ⟨lA9, ln9, lc9⟩, ⟨oA9, on9, oc9⟩, ⟨dA9, dn9, dc9⟩, ⟨rA9, rn9, rc9⟩, ⟨xA9, xn9, xc9⟩, ⟨qA9, qn9, qc9⟩⟩, rfl, ⟨o_p9, o_l9, o_o9, o_d9, o_r9, o_x9, o_q9, ma9, mb9, mc9⟩, hb9⟩
  refine ⟨_, rfl, ?_⟩
  have ep9 : b.ps.length = pn9 := own_lenI o_p9
  subst pn9
  have el9 : b.ls.length = ln9 := own_lenOf (by decide) cLimit_len o_l9
  subst ln9
  have eo9 : b.os.length = on9 := own_lenOf (by decide) cWaiting_len o_o9
  subst on9
  have ed9 : b.ds.length = dn9 := own_lenOf (by decide) cDone_len o_d9
  subst dn9
  have er9 : b.rs.length = rn9 := own_lenOf (by decide) cRecord_len o_r9
  subst rn9
  have ex9 : b.xs.length = xn9 := own_lenI o_x9
  subst xn9
  have eq9 : b.qs.length = qn9 := own_lenI o_q9
  subst qn9
  change w10.ownsRow w7.heap.size 3 1 (.slice pA9 b.ps.length pc9) b.ps.length (b.ps.flatMap cI) at o_p9
  change w10.ownsRow w7.heap.size 36 3 (.slice lA9 b.ls.length lc9) b.ls.length (b.ls.flatMap cLimit) at o_l9
  change w10.ownsRow w7.heap.size 45 5 (.slice oA9 b.os.length oc9) b.os.length (b.os.flatMap cWaiting) at o_o9
  change w10.ownsRow w7.heap.size 51 3 (.slice dA9 b.ds.length dc9) b.ds.length (b.ds.flatMap cDone) at o_d9
  change w10.ownsRow w7.heap.size 47 4 (.slice rA9 b.rs.length rc9) b.rs.length (b.rs.flatMap cRecord) at o_r9
  change w10.ownsRow w7.heap.size 3 1 (.slice xA9 b.xs.length xc9) b.xs.length (b.xs.flatMap cI) at o_x9
  change w10.ownsRow w7.heap.size 3 1 (.slice qA9 b.qs.length qc9) b.qs.length (b.qs.flatMap cI) at o_q9
  have m_p9_d9 := own_ne_type o_p9 o_d9 (by decide)
  have m_l9_d9 := own_ne_type o_l9 o_d9 (by decide)
  have m_o9_d9 := own_ne_type o_o9 o_d9 (by decide)
  have m_d9_r9 := own_ne_type o_d9 o_r9 (by decide)
  have m_r9_d9 := ne_row_symm m_d9_r9
  have m_p9_x9 := ma9
  have m_d9_x9 := own_ne_type o_d9 o_x9 (by decide)
  have m_x9_d9 := ne_row_symm m_d9_x9
  have m_p9_q9 := mb9
  have m_d9_q9 := own_ne_type o_d9 o_q9 (by decide)
  have m_q9_d9 := ne_row_symm m_d9_q9
  have m_x9_q9 := mc9
  have d_p9_q6 := own_ne_box o_p9 (lt_of_block h_q6)
  replace o_p9 := own_base (base := w.heap.size) o_p9 hB.size
  have d_l9_q6 := own_ne_box o_l9 (lt_of_block h_q6)
  replace o_l9 := own_base (base := w.heap.size) o_l9 hB.size
  have d_o9_q6 := own_ne_box o_o9 (lt_of_block h_q6)
  replace o_o9 := own_base (base := w.heap.size) o_o9 hB.size
  have d_d9_q2 := own_ne_box o_d9 (lt_of_block h_q2)
  have d_d9_q6 := own_ne_box o_d9 (lt_of_block h_q6)
  have g_d9 : ∀ b, (dA9 : Option Addr).map (·.block) = some b → w.heap.size ≤ b := fun b h => Nat.le_trans hB.size (own_row o_d9 b h).1
  replace o_d9 := own_base (base := w.heap.size) o_d9 hB.size
  have d_r9_q6 := own_ne_box o_r9 (lt_of_block h_q6)
  replace o_r9 := own_base (base := w.heap.size) o_r9 hB.size
  have d_x9_q6 := own_ne_box o_x9 (lt_of_block h_q6)
  replace o_x9 := own_base (base := w.heap.size) o_x9 hB.size
  have d_q9_q6 := own_ne_box o_q9 (lt_of_block h_q6)
  replace o_q9 := own_base (base := w.heap.size) o_q9 hB.size
  replace h_q2 := keep_below h_q2 hb9
  replace h_q4 := keep_below h_q4 hb9
  replace h_q6 := keep_below h_q6 hb9
  replace hB := hB.trans (hb9.mono hB.size)
  clear hb9
  intro a6 p6
  refine q_v p6.s rfl rfl rfl ?_
  refine g_alloc rfl Try.zeroValue32 rfl ?_
  intro q11 w12 N_q11
  have n_q2_q11 := N_q11.ne ⟨lt_of_block h_q2⟩
  have n_q11_q2 := n_q2_q11.symm
  have n_q4_q11 := N_q11.ne ⟨lt_of_block h_q4⟩
  have n_q11_q4 := n_q4_q11.symm
  have n_q6_q11 := N_q11.ne ⟨lt_of_block h_q6⟩
  have n_q11_q6 := n_q6_q11.symm
  have d_p9_q11 := own_ne_new o_p9 N_q11
  have d_l9_q11 := own_ne_new o_l9 N_q11
  have d_o9_q11 := own_ne_new o_o9 N_q11
  have d_d9_q11 := own_ne_new o_d9 N_q11
  have d_r9_q11 := own_ne_new o_r9 N_q11
  have d_x9_q11 := own_ne_new o_x9 N_q11
  have d_q9_q11 := own_ne_new o_q9 N_q11
  have g_q11 : GeB w.heap.size q11 := ⟨Nat.le_trans hB.size N_q11.lo⟩
  replace h_q2 := keep_below h_q2 N_q11.below
  replace h_q4 := keep_below h_q4 N_q11.below
  replace h_q6 := keep_below h_q6 N_q11.below
  replace o_p9 := own_below o_p9 N_q11.below
  replace o_l9 := own_below o_l9 N_q11.below
  replace o_o9 := own_below o_o9 N_q11.below
  replace o_d9 := own_below o_d9 N_q11.below
  replace o_r9 := own_below o_r9 N_q11.below
  replace o_x9 := own_below o_x9 N_q11.below
  replace o_q9 := own_below o_q9 N_q11.below
  replace hB := below_new hB hB.size N_q11
  have h_q11 := N_q11.here
  clear N_q11
  intro a7 p7
  refine q_eff rfl rfl ?_
  refine g_storeB rfl p7.v (p7.k p6.v rfl) Try.sizeOf32 rfl rfl h_q11 rfl ?_
  intro w13 W_w13
  replace h_q2 := keep_wrote h_q2 W_w13 n_q11_q2
  replace h_q4 := keep_wrote h_q4 W_w13 n_q11_q4
  replace h_q6 := keep_wrote h_q6 W_w13 n_q11_q6
  replace h_q11 := W_w13.here
  replace o_p9 := own_wrote o_p9 W_w13 d_p9_q11
  replace o_l9 := own_wrote o_l9 W_w13 d_l9_q11
  replace o_o9 := own_wrote o_o9 W_w13 d_o9_q11
  replace o_d9 := own_wrote o_d9 W_w13 d_d9_q11
  replace o_r9 := own_wrote o_r9 W_w13 d_r9_q11
  replace o_x9 := own_wrote o_x9 W_w13 d_x9_q11
  replace o_q9 := own_wrote o_q9 W_w13 d_q9_q11
  replace hB := below_wrote hB hB.size W_w13 g_q11.le
  clear W_w13
  refine wpList_nil ?_
  have kc4 := (((Kps.nil a4).u p5).u p6).u p7
  replace s2 := kc4.k s2 rfl
  replace s3 := kc4.k s3 rfl
  replace s4 := kc4.k s4 rfl
  replace s5 := kc4.k s5 rfl
  replace s6 := p7.v
  clear kc4
  refine hK8 _ _ ?_
  clear hK8
  refine wp_seq_k fun K14 hK14 => ?_
  refine wp_seq_k fun K15 hK15 => ?_
  refine wp_region_lit ?_
  refine q_v p7.s rfl rfl rfl (g_loadB rfl s2 Try.isAgg32 Try.sizeOf32 rfl h_q2 ?_)
  intro a8 p8
  refine q_v p8.s rfl rfl rfl ?_
  refine g_call rfl rfl Try.call23 (arr1 p8.v) ?_
  refine (sBoardOk_any (S := (⟨⟨pA, b.ps.length, pc⟩, ⟨lA, b.ls.length, lc⟩, ⟨oA, b.os.length, oc⟩, ⟨dA, b.ds.length, dc⟩, ⟨rA, b.rs.length, rc⟩, ⟨xA, b.xs.length, xc⟩, ⟨qA, b.qs.length, qc⟩⟩ : BSl)) (b := b) _ ⟨⟨(hr_p.below hB), rfl, hnn_p, hnc_p⟩, ⟨(hr_l.below hB), rfl, hnn_l, hnc_l⟩, ⟨(hr_o.below hB), rfl, hnn_o, hnc_o⟩, ⟨(hr_d.below hB), rfl, hnn_d, hnc_d⟩, ⟨(hr_r.below hB), rfl, hnn_r, hnc_r⟩, ⟨(hr_x.below hB), rfl, hnn_x, hnc_x⟩, ⟨(hr_q.below hB), rfl, hnn_q, hnc_q⟩⟩ hW).mono ?_
  rintro e w17 ⟨rfl, hb16⟩
  refine ⟨_, rfl, ?_⟩
  replace h_q2 := keep_below h_q2 hb16
  replace h_q4 := keep_below h_q4 hb16
  replace h_q6 := keep_below h_q6 hb16
  replace h_q11 := keep_below h_q11 hb16
  replace o_p9 := own_below o_p9 hb16
  replace o_l9 := own_below o_l9 hb16
  replace o_o9 := own_below o_o9 hb16
  replace o_d9 := own_below o_d9 hb16
  replace o_r9 := own_below o_r9 hb16
  replace o_x9 := own_below o_x9 hb16
  replace o_q9 := own_below o_q9 hb16
  replace hB := hB.trans (hb16.mono hB.size)
  clear hb16
  intro a9 p9
  refine q_v p9.s rfl rfl rfl (g_not rfl p9.v ?_)
  intro a10 p10
  refine q_v p10.s rfl rfl rfl (g_move rfl p10.v ?_)
  intro a11 p11
  cases h1 : boOk b
  · have s13 : a9.eval (.tmp 13) = .bool false := (p9.v).trans (congrArg Value.bool h1)
    have s14 : a10.eval (.tmp 14) = .bool true := (p10.v).trans (congrArg (fun b => Value.bool (!b)) h1)
    have s15 : a11.eval (.tmp 15) = .bool true := (p11.v).trans (congrArg (fun b => Value.bool (!b)) h1)
    refine q_s p11.s rfl rfl s15 rfl rfl ?_
    intro a12 p12
    refine q_s p12.s rfl rfl (p12.k s15 rfl) rfl rfl ?_
    intro a13 p13
    refine q_s p13.s rfl rfl (p13.k (p12.k s15 rfl) rfl) rfl rfl ?_
    intro a14 p14
    refine q_v p14.s rfl rfl rfl (g_pick_t rfl (p14.k (p13.k (p12.k s15 rfl) rfl) rfl) rfl ?_)
    intro a15 p15
    have s19 : a15.eval (.tmp 19) = .bool true := p15.v
    refine wpList_nil ?_
    have kc7 := ((((((((Kps.nil a7).u p8).u p9).u p10).u p11).u p12).u p13).u p14).u p15
    replace s2 := kc7.k s2 rfl
    replace s3 := kc7.k s3 rfl
    replace s4 := kc7.k s4 rfl
    replace s5 := kc7.k s5 rfl
    replace s6 := kc7.k s6 rfl
    clear kc7
    refine hK15 _ _ ?_
    clear hK15
    refine c_true s19 ?_
    refine wp_seq_k fun K18 hK18 => ?_
    refine wp_region_lit ?_
    refine q_v p15.s rfl rfl rfl (g_loadB rfl s6 Try.isAgg32 Try.sizeOf32 rfl h_q11 ?_)
    intro a16 p16
    refine q_eff rfl rfl ?_
    refine g_storeB rfl (p16.k s4 rfl) p16.v Try.sizeOf32 rfl rfl h_q6 rfl ?_
    intro w19 W_w19
    replace h_q2 := keep_wrote h_q2 W_w19 n_q6_q2
    replace h_q4 := keep_wrote h_q4 W_w19 n_q6_q4
    replace h_q6 := W_w19.here
    replace h_q11 := keep_wrote h_q11 W_w19 n_q6_q11
    replace o_p9 := own_wrote o_p9 W_w19 d_p9_q6
    replace o_l9 := own_wrote o_l9 W_w19 d_l9_q6
    replace o_o9 := own_wrote o_o9 W_w19 d_o9_q6
    replace o_d9 := own_wrote o_d9 W_w19 d_d9_q6
    replace o_r9 := own_wrote o_r9 W_w19 d_r9_q6
    replace o_x9 := own_wrote o_x9 W_w19 d_x9_q6
    replace o_q9 := own_wrote o_q9 W_w19 d_q9_q6
    replace hB := below_wrote hB hB.size W_w19 g_q6.le
    clear W_w19
    refine q_v p16.s rfl rfl rfl (g_assign rfl rfl ?_)
    intro a17 p17
    have s5 : a17.eval (.tmp 5) = .bool false := p17.v
    refine wpList_nil ?_
    replace s2 := p17.k (p16.k s2 rfl) rfl
    replace s3 := p17.k (p16.k s3 rfl) rfl
    replace s4 := p17.k (p16.k s4 rfl) rfl
    replace s6 := p17.k (p16.k s6 rfl) rfl
    refine hK18 _ _ ?_
    clear hK18
    refine wp_ret ?_
    try dsimp only [Exit.then, Exit.inBlock]
    refine ret2 p17.s Try.results33 (res_cell s4 h_q6 Try.isAgg32 Try.sizeOf32 rfl) (res_tmp s5) ?_
    rw [bdAcc_no (.inl h1)]
    exact ⟨⟨⟨pA9, b.ps.length, pc9⟩, ⟨lA9, b.ls.length, lc9⟩, ⟨oA9, b.os.length, oc9⟩, ⟨dA9, b.ds.length, dc9⟩, ⟨rA9, b.rs.length, rc9⟩, ⟨xA9, b.xs.length, xc9⟩, ⟨qA9, b.qs.length, qc9⟩⟩, rfl, ⟨o_p9, o_l9, o_o9, o_d9, o_r9, o_x9, o_q9, m_p9_x9, m_p9_q9, m_x9_q9⟩, hB⟩
  have hbo := boOk_parts h1
  obtain ⟨ht0, ht1⟩ := hbo.taken
  have hds5 := hbo.dsn
  have hos5 := hbo.osn
  have s13 : a9.eval (.tmp 13) = .bool true := (p9.v).trans (congrArg Value.bool h1)
  have s14 : a10.eval (.tmp 14) = .bool false := (p10.v).trans (congrArg (fun b => Value.bool (!b)) h1)
  have s15 : a11.eval (.tmp 15) = .bool false := (p11.v).trans (congrArg (fun b => Value.bool (!b)) h1)
  refine q_t p11.s rfl rfl s15 rfl rfl (g_loadB rfl (p11.k (p10.k (p9.k (p8.k s3 rfl) rfl) rfl) rfl) Try.isAgg40 Try.sizeOf40 rfl h_q4 ?_)
  intro a12 p12
  refine q_t p12.s rfl rfl (p12.k s15 rfl) rfl rfl ?_
  refine g_call rfl rfl Try.call81 (arr1 p12.v) ?_
  refine (sOrderOk_any _ _ _ _ _).mono ?_
  rintro e w21 ⟨rfl, hb20⟩
  refine ⟨_, rfl, ?_⟩
  replace h_q2 := keep_below h_q2 hb20
  replace h_q4 := keep_below h_q4 hb20
  replace h_q6 := keep_below h_q6 hb20
  replace h_q11 := keep_below h_q11 hb20
  replace o_p9 := own_below o_p9 hb20
  replace o_l9 := own_below o_l9 hb20
  replace o_o9 := own_below o_o9 hb20
  replace o_d9 := own_below o_d9 hb20
  replace o_r9 := own_below o_r9 hb20
  replace o_x9 := own_below o_x9 hb20
  replace o_q9 := own_below o_q9 hb20
  replace hB := hB.trans (hb20.mono hB.size)
  clear hb20
  intro a13 p13
  refine q_t p13.s rfl rfl (p13.k (p12.k s15 rfl) rfl) rfl rfl (g_not rfl p13.v ?_)
  intro a14 p14
  refine q_v p14.s rfl rfl rfl (g_pick_f rfl (p14.k (p13.k (p12.k s15 rfl) rfl) rfl) p14.v ?_)
  intro a15 p15
  have s19 : a15.eval (.tmp 19) = .bool (!(ordOk ok ot oa ob)) := p15.v
  refine wpList_nil ?_
  have kc7 := ((((((((Kps.nil a7).u p8).u p9).u p10).u p11).u p12).u p13).u p14).u p15
  replace s2 := kc7.k s2 rfl
  replace s3 := kc7.k s3 rfl
  replace s4 := kc7.k s4 rfl
  replace s5 := kc7.k s5 rfl
  replace s6 := kc7.k s6 rfl
  clear kc7
  refine hK15 _ _ ?_
  clear hK15
  cases h2 : ordOk ok ot oa ob
  · replace s19 : a15.eval (.tmp 19) = .bool true := (s19).trans (congrArg (fun b => Value.bool (!b)) h2)
    refine c_true s19 ?_
    refine wp_seq_k fun K22 hK22 => ?_
    refine wp_region_lit ?_
    refine q_v p15.s rfl rfl rfl (g_loadB rfl s6 Try.isAgg32 Try.sizeOf32 rfl h_q11 ?_)
    intro a16 p16
    refine q_eff rfl rfl ?_
    refine g_storeB rfl (p16.k s4 rfl) p16.v Try.sizeOf32 rfl rfl h_q6 rfl ?_
    intro w23 W_w23
    replace h_q2 := keep_wrote h_q2 W_w23 n_q6_q2
    replace h_q4 := keep_wrote h_q4 W_w23 n_q6_q4
    replace h_q6 := W_w23.here
    replace h_q11 := keep_wrote h_q11 W_w23 n_q6_q11
    replace o_p9 := own_wrote o_p9 W_w23 d_p9_q6
    replace o_l9 := own_wrote o_l9 W_w23 d_l9_q6
    replace o_o9 := own_wrote o_o9 W_w23 d_o9_q6
    replace o_d9 := own_wrote o_d9 W_w23 d_d9_q6
    replace o_r9 := own_wrote o_r9 W_w23 d_r9_q6
    replace o_x9 := own_wrote o_x9 W_w23 d_x9_q6
    replace o_q9 := own_wrote o_q9 W_w23 d_q9_q6
    replace hB := below_wrote hB hB.size W_w23 g_q6.le
    clear W_w23
    refine q_v p16.s rfl rfl rfl (g_assign rfl rfl ?_)
    intro a17 p17
    have s5 : a17.eval (.tmp 5) = .bool false := p17.v
    refine wpList_nil ?_
    replace s2 := p17.k (p16.k s2 rfl) rfl
    replace s3 := p17.k (p16.k s3 rfl) rfl
    replace s4 := p17.k (p16.k s4 rfl) rfl
    replace s6 := p17.k (p16.k s6 rfl) rfl
    refine hK22 _ _ ?_
    clear hK22
    refine wp_ret ?_
    try dsimp only [Exit.then, Exit.inBlock]
    refine ret2 p17.s Try.results33 (res_cell s4 h_q6 Try.isAgg32 Try.sizeOf32 rfl) (res_tmp s5) ?_
    rw [bdAcc_no (.inr (.inl h2))]
    exact ⟨⟨⟨pA9, b.ps.length, pc9⟩, ⟨lA9, b.ls.length, lc9⟩, ⟨oA9, b.os.length, oc9⟩, ⟨dA9, b.ds.length, dc9⟩, ⟨rA9, b.rs.length, rc9⟩, ⟨xA9, b.xs.length, xc9⟩, ⟨qA9, b.qs.length, qc9⟩⟩, rfl, ⟨o_p9, o_l9, o_o9, o_d9, o_r9, o_x9, o_q9, m_p9_x9, m_p9_q9, m_x9_q9⟩, hB⟩
  replace s19 : a15.eval (.tmp 19) = .bool false := (s19).trans (congrArg (fun b => Value.bool (!b)) h2)
  refine c_false s19 ?_
  refine wp_skip ?_
  refine hK14 _ _ ?_
  clear hK14
  refine wp_seq_k fun K24 hK24 => ?_
  refine wp_region_lit ?_
  refine q_v p15.s rfl rfl rfl (g_field (r := 10) rfl s2 Try.underlying32 rfl (fun w => Try.sizeOf3 w) rfl rfl ?_)
  intro a16 p16
  refine q_v p16.s rfl rfl rfl (g_load rfl p16.v Try.isAgg3 (box_cell h_q2 rfl) ?_)
  intro a17 p17
  refine q_v p17.s rfl rfl rfl (g_loadB rfl (p17.k (p16.k s3 rfl) rfl) Try.isAgg40 Try.sizeOf40 rfl h_q4 ?_)
  intro a18 p18
  refine q_v p18.s rfl rfl rfl (g_build (cells := #[.int .i64 b.taken, .int .i64 ok, .int .i64 ot, .int .i64 oa, .int .i64 ob]) rfl (arrB2 (p18.k p17.v rfl) p18.v) (by kernel_rfl) ?_)
  intro a19 p19
  refine q_v p19.s rfl rfl rfl ?_
  refine g_alloc rfl Try.zeroValue45 rfl ?_
  intro q25 w26 N_q25
  have n_q2_q25 := N_q25.ne ⟨lt_of_block h_q2⟩
  have n_q25_q2 := n_q2_q25.symm
  have n_q4_q25 := N_q25.ne ⟨lt_of_block h_q4⟩
  have n_q25_q4 := n_q4_q25.symm
  have n_q6_q25 := N_q25.ne ⟨lt_of_block h_q6⟩
  have n_q25_q6 := n_q6_q25.symm
  have n_q11_q25 := N_q25.ne ⟨lt_of_block h_q11⟩
  have n_q25_q11 := n_q11_q25.symm
  have d_p9_q25 := own_ne_new o_p9 N_q25
  have d_l9_q25 := own_ne_new o_l9 N_q25
  have d_o9_q25 := own_ne_new o_o9 N_q25
  have d_d9_q25 := own_ne_new o_d9 N_q25
  have d_r9_q25 := own_ne_new o_r9 N_q25
  have d_x9_q25 := own_ne_new o_x9 N_q25
  have d_q9_q25 := own_ne_new o_q9 N_q25
  have g_q25 : GeB w.heap.size q25 := ⟨Nat.le_trans hB.size N_q25.lo⟩
  replace h_q2 := keep_below h_q2 N_q25.below
  replace h_q4 := keep_below h_q4 N_q25.below
  replace h_q6 := keep_below h_q6 N_q25.below
  replace h_q11 := keep_below h_q11 N_q25.below
  replace o_p9 := own_below o_p9 N_q25.below
  replace o_l9 := own_below o_l9 N_q25.below
  replace o_o9 := own_below o_o9 N_q25.below
  replace o_d9 := own_below o_d9 N_q25.below
  replace o_r9 := own_below o_r9 N_q25.below
  replace o_x9 := own_below o_x9 N_q25.below
  replace o_q9 := own_below o_q9 N_q25.below
  replace hB := below_new hB hB.size N_q25
  have h_q25 := N_q25.here
  clear N_q25
  intro a20 p20
  refine q_eff rfl rfl ?_
  refine g_storeB rfl p20.v (p20.k p19.v rfl) Try.sizeOf45 rfl rfl h_q25 rfl ?_
  intro w27 W_w27
  replace h_q2 := keep_wrote h_q2 W_w27 n_q25_q2
  replace h_q4 := keep_wrote h_q4 W_w27 n_q25_q4
  replace h_q6 := keep_wrote h_q6 W_w27 n_q25_q6
  replace h_q11 := keep_wrote h_q11 W_w27 n_q25_q11
  replace h_q25 := W_w27.here
  replace o_p9 := own_wrote o_p9 W_w27 d_p9_q25
  replace o_l9 := own_wrote o_l9 W_w27 d_l9_q25
  replace o_o9 := own_wrote o_o9 W_w27 d_o9_q25
  replace o_d9 := own_wrote o_d9 W_w27 d_d9_q25
  replace o_r9 := own_wrote o_r9 W_w27 d_r9_q25
  replace o_x9 := own_wrote o_x9 W_w27 d_x9_q25
  replace o_q9 := own_wrote o_q9 W_w27 d_q9_q25
  replace hB := below_wrote hB hB.size W_w27 g_q25.le
  clear W_w27
  refine wpList_nil ?_
  have kc15 := (((((Kps.nil a15).u p16).u p17).u p18).u p19).u p20
  replace s2 := kc15.k s2 rfl
  replace s3 := kc15.k s3 rfl
  replace s4 := kc15.k s4 rfl
  replace s5 := kc15.k s5 rfl
  replace s6 := kc15.k s6 rfl
  replace s7 := p20.v
  clear kc15
  refine hK24 _ _ ?_
  clear hK24
  refine wp_seq_k fun K28 hK28 => ?_
  refine wp_region_lit ?_
  refine q_v p20.s rfl rfl rfl (g_field (r := 10) rfl s6 Try.underlying32 rfl (fun w => Try.sizeOf3 w) rfl rfl ?_)
  intro a21 p21
  refine q_v p21.s rfl rfl rfl (g_load rfl p21.v Try.isAgg3 (box_cell h_q11 rfl) ?_)
  intro a22 p22
  refine q_v p22.s rfl rfl rfl (g_add (r := b.taken + 1) rfl p22.v rfl (by omega) (by omega) ?_)
  intro a23 p23
  refine q_v p23.s rfl rfl rfl (g_field (r := 10) rfl (p23.k (p22.k (p21.k s6 rfl) rfl) rfl) Try.underlying32 rfl (fun w => Try.sizeOf3 w) rfl rfl ?_)
  intro a24 p24
  refine q_eff rfl rfl ?_
  refine g_store (cs' := #[.int .i64 b.clk, .slice pA9 b.ps.length pc9, .bool b.safe, .slice lA9 b.ls.length lc9, .slice oA9 b.os.length oc9, .slice dA9 b.ds.length dc9, .int .i64 b.room, .slice rA9 b.rs.length rc9, .slice xA9 b.xs.length xc9, .int .i64 b.made, .int .i64 (b.taken + 1), .slice qA9 b.qs.length qc9]) rfl p24.v (p24.k p23.v rfl) Try.sizeOf3 rfl h_q11 (Nat.le_of_ble_eq_true rfl) rfl ?_
  intro w29 W_w29
  replace h_q2 := keep_wrote h_q2 W_w29 n_q11_q2
  replace h_q4 := keep_wrote h_q4 W_w29 n_q11_q4
  replace h_q6 := keep_wrote h_q6 W_w29 n_q11_q6
  replace h_q11 := W_w29.here
  replace h_q25 := keep_wrote h_q25 W_w29 n_q11_q25
  replace o_p9 := own_wrote o_p9 W_w29 d_p9_q11
  replace o_l9 := own_wrote o_l9 W_w29 d_l9_q11
  replace o_o9 := own_wrote o_o9 W_w29 d_o9_q11
  replace o_d9 := own_wrote o_d9 W_w29 d_d9_q11
  replace o_r9 := own_wrote o_r9 W_w29 d_r9_q11
  replace o_x9 := own_wrote o_x9 W_w29 d_x9_q11
  replace o_q9 := own_wrote o_q9 W_w29 d_q9_q11
  replace hB := below_wrote hB hB.size W_w29 g_q11.le
  clear W_w29
  refine wpList_nil ?_
  have kc20 := ((((Kps.nil a20).u p21).u p22).u p23).u p24
  replace s2 := kc20.k s2 rfl
  replace s3 := kc20.k s3 rfl
  replace s4 := kc20.k s4 rfl
  replace s5 := kc20.k s5 rfl
  replace s6 := kc20.k s6 rfl
  replace s7 := kc20.k s7 rfl
  clear kc20
  refine hK28 _ _ ?_
  clear hK28
  refine wp_seq_k fun K30 hK30 => ?_
  refine wp_region_lit ?_
  refine q_v p24.s rfl rfl rfl (g_field (r := 4) rfl s2 Try.underlying32 rfl (fun w => Try.sizeOf26 w) rfl rfl ?_)
  intro a25 p25
  refine q_v p25.s rfl rfl rfl (g_load rfl p25.v Try.isAgg26 (box_cell h_q2 rfl) ?_)
  intro a26 p26
  refine q_v p26.s rfl rfl rfl (g_len (e := _) rfl Try.underlying26 p26.v ?_)
  intro a27 p27
  refine q_v p27.s rfl rfl rfl (g_lss rfl p27.v rfl ?_)
  intro a28 p28
  refine q_v p28.s rfl rfl rfl (g_assign rfl p28.v ?_)
  intro a29 p29
  refine wpList_nil ?_
  have kc24 := (((((Kps.nil a24).u p25).u p26).u p27).u p28).u p29
  replace s2 := kc24.k s2 rfl
  replace s3 := kc24.k s3 rfl
  replace s4 := kc24.k s4 rfl
  replace s5 := kc24.k s5 rfl
  replace s6 := kc24.k s6 rfl
  replace s7 := kc24.k s7 rfl
  replace s8 := p29.v
  clear kc24
  refine hK30 _ _ ?_
  clear hK30
  refine wp_seq_k fun K31 hK31 => ?_
  refine wp_seq_k fun K32 hK32 => ?_
  refine wp_region_lit ?_
  refine q_v p29.s rfl rfl rfl (g_move rfl s8 ?_)
  intro a30 p30
  refine wpList_nil ?_
  replace s2 := p30.k s2 rfl
  replace s3 := p30.k s3 rfl
  replace s4 := p30.k s4 rfl
  replace s5 := p30.k s5 rfl
  replace s6 := p30.k s6 rfl
  replace s7 := p30.k s7 rfl
  replace s8 := p30.k s8 rfl
  replace s33 := p30.v
  refine hK32 _ _ ?_
  clear hK32
  by_cases hroom : ((b.os.length : Nat) : Int) < 40
  · replace s8 : a30.eval (.tmp 8) = .bool true := (s8).trans (congrArg Value.bool (decide_eq_true hroom))
    replace s33 : a30.eval (.tmp 33) = .bool true := (s33).trans (congrArg Value.bool (decide_eq_true hroom))
    refine c_true s33 ?_
    refine wp_seq_k fun K33 hK33 => ?_
    refine wp_region_lit ?_
    refine q_v p30.s rfl rfl rfl (g_field (r := 4) rfl s2 Try.underlying32 rfl (fun w => Try.sizeOf26 w) rfl rfl ?_)
    intro a31 p31
    refine q_v p31.s rfl rfl rfl (g_load rfl p31.v Try.isAgg26 (box_cell h_q2 rfl) ?_)
    intro a32 p32
    refine q_v p32.s rfl rfl rfl (g_len (e := _) rfl Try.underlying26 p32.v ?_)
    intro a33 p33
    refine q_v p33.s rfl rfl rfl (g_assign rfl p33.v ?_)
    intro a34 p34
    refine wpList_nil ?_
    have kc30 := ((((Kps.nil a30).u p31).u p32).u p33).u p34
    replace s2 := kc30.k s2 rfl
    replace s3 := kc30.k s3 rfl
    replace s4 := kc30.k s4 rfl
    replace s5 := kc30.k s5 rfl
    replace s6 := kc30.k s6 rfl
    replace s7 := kc30.k s7 rfl
    replace s8 := kc30.k s8 rfl
    replace s9 := p34.v
    clear kc30
    refine hK33 _ _ ?_
    clear hK33
    refine wp_seq_k fun K34 hK34 => ?_
    refine wp_block ?_
    refine wp_loop (fun a wr => ∃ (k : Nat), (St 86 a) ∧ (a.eval (.tmp 2) = .pointer (some ⟨q2, 0, none⟩)) ∧ (a.eval (.tmp 3) = .pointer (some ⟨q4, 0, none⟩)) ∧ (a.eval (.tmp 4) = .pointer (some ⟨q6, 0, none⟩)) ∧ (a.eval (.tmp 5) = .bool false) ∧ (a.eval (.tmp 6) = .pointer (some ⟨q11, 0, none⟩)) ∧ (a.eval (.tmp 7) = .pointer (some ⟨q25, 0, none⟩)) ∧ (a.eval (.tmp 8) = .bool true) ∧ (a.eval (.tmp 9) = .int .i64 ((k : Nat) : Int)) ∧ (Below w.heap.size w wr) ∧ (wr.heap[q2]? = some (.cells #[.int .i64 b.clk, .slice pA b.ps.length pc, .bool b.safe, .slice lA b.ls.length lc, .slice oA b.os.length oc, .slice dA b.ds.length dc, .int .i64 b.room, .slice rA b.rs.length rc, .slice xA b.xs.length xc, .int .i64 b.made, .int .i64 b.taken, .slice qA b.qs.length qc] 32 (0, 0))) ∧ (wr.heap[q4]? = some (.cells #[.int .i64 ok, .int .i64 ot, .int .i64 oa, .int .i64 ob] 40 (0, 0))) ∧ (wr.heap[q6]? = some (.cells #[.int .i64 0, .slice none 0 0, .bool false, .slice none 0 0, .slice none 0 0, .slice none 0 0, .int .i64 0, .slice none 0 0, .slice none 0 0, .int .i64 0, .int .i64 0, .slice none 0 0] 32 (0, 0))) ∧ (wr.heap[q11]? = some (.cells #[.int .i64 b.clk, .slice pA9 b.ps.length pc9, .bool b.safe, .slice lA9 b.ls.length lc9, .slice oA9 b.os.length oc9, .slice dA9 b.ds.length dc9, .int .i64 b.room, .slice rA9 b.rs.length rc9, .slice xA9 b.xs.length xc9, .int .i64 b.made, .int .i64 (b.taken + 1), .slice qA9 b.qs.length qc9] 32 (0, 0))) ∧ (wr.heap[q25]? = some (.cells #[.int .i64 b.taken, .int .i64 ok, .int .i64 ot, .int .i64 oa, .int .i64 ob] 45 (0, 0))) ∧ (wr.ownsRow w.heap.size 3 1 (.slice pA9 b.ps.length pc9) b.ps.length (b.ps.flatMap cI)) ∧ (wr.ownsRow w.heap.size 36 3 (.slice lA9 b.ls.length lc9) b.ls.length (b.ls.flatMap cLimit)) ∧ (wr.ownsRow w.heap.size 45 5 (.slice oA9 b.os.length oc9) b.os.length (b.os.flatMap cWaiting)) ∧ (wr.ownsRow w.heap.size 51 3 (.slice dA9 b.ds.length dc9) b.ds.length (b.ds.flatMap cDone)) ∧ (wr.ownsRow w.heap.size 47 4 (.slice rA9 b.rs.length rc9) b.rs.length (b.rs.flatMap cRecord)) ∧ (wr.ownsRow w.heap.size 3 1 (.slice xA9 b.xs.length xc9) b.xs.length (b.xs.flatMap cI)) ∧ (wr.ownsRow w.heap.size 3 1 (.slice qA9 b.qs.length qc9) b.qs.length (b.qs.flatMap cI)) ∧ (k ≤ b.os.length) ∧ (accN b.os ot k = accPos b.os ot)) (fun a _ => (intOf (a.eval (.tmp 9))).toNat) (⟨b.os.length, p34.s, s2, s3, s4, s5, s6, s7, s8, s9, hB, h_q2, h_q4, h_q6, h_q11, h_q25, o_p9, o_l9, o_o9, o_d9, o_r9, o_x9, o_q9, Nat.le_refl _, rfl⟩) ?_
    intro a35 w36 hIv
    obtain ⟨k, hs, s2, s3, s4, s5, s6, s7, s8, s9, hB, h_q2, h_q4, h_q6, h_q11, h_q25, o_p9, o_l9, o_o9, o_d9, o_r9, o_x9, o_q9, hk, hp⟩ := hIv
    have mu37 := s9
    refine wp_seq_k fun K38 hK38 => ?_
    refine wp_seq_k fun K39 hK39 => ?_
    by_cases hk0 : 0 < ((k : Nat) : Int)
    · have hk1 : k - 1 < b.os.length := by omega
      obtain ⟨b40, o41, hA42, hl_hc43, hc43⟩ := Rd.get cWaiting_len (hr_o.below hB) rfl (i := k - 1) (by omega)
      refine wp_drawn (n := 86) [] [] [] (fun k_ v_ _wx => match k_ with | 0 => v_ = .int .i64 ((k : Nat) : Int) | 1 => v_ = .bool true | 2 => v_ = .bool true | 3 => v_ = .pointer (some ⟨q2, 4, none⟩) | 4 => v_ = .slice oA b.os.length oc | 5 => v_ = .int .i64 ((k : Nat) : Int) | 6 => v_ = .int .i64 ((k - 1 : Nat) : Int) | 7 => v_ = .pointer (some ⟨b40, o41 + (k - 1) * 5, none⟩) | 8 => v_ = .pointer (some ⟨b40, o41 + (k - 1) * 5 + 1, none⟩) | 9 => v_ = .pointer (some ⟨b40, o41 + (k - 1) * 5 + 2, none⟩) | 10 => v_ = .int .i64 (b.os[k - 1].f2) | 11 => v_ = .pointer (some ⟨q4, 1, none⟩) | 12 => v_ = .int .i64 ot | 13 => v_ = .bool (decide (ot < b.os[k - 1].f2)) | 14 => v_ = .bool (decide (ot < b.os[k - 1].f2)) | _ => True) (by kernel_rfl) (by kernel_rfl) (by kernel_rfl) (by kernel_rfl) hs.size ?_ ?_ ?_
      · intro i v wa wb hb hr
        rcases i with _ | _ | _ | _ | _ | _ | _ | _ | _ | _ | _ | _ | _ | _ | _ | i
        · exact hr
        · exact hr
        · exact hr
        · exact hr
        · exact hr
        · exact hr
        · exact hr
        · exact hr
        · exact hr
        · exact hr
        · exact hr
        · exact hr
        · exact hr
        · exact hr
        · exact hr
        · trivial
      · refine d_step rfl rfl ?_ (d_step rfl rfl ?_ (d_step rfl rfl ?_ (d_take rfl 2 true 39 rfl rfl rfl (fun v w h => h) ?_ (d_take rfl 2 true 39 rfl rfl rfl (fun v w h => h) ?_ (d_take rfl 2 true 39 rfl rfl rfl (fun v w h => h) ?_ (d_take rfl 2 true 39 rfl rfl rfl (fun v w h => h) ?_ (d_take rfl 2 true 39 rfl rfl rfl (fun v w h => h) ?_ (d_take rfl 2 true 39 rfl rfl rfl (fun v w h => h) ?_ (d_take rfl 2 true 39 rfl rfl rfl (fun v w h => h) ?_ (d_take rfl 2 true 39 rfl rfl rfl (fun v w h => h) ?_ (d_take rfl 2 true 39 rfl rfl rfl (fun v w h => h) ?_ (d_take rfl 2 true 39 rfl rfl rfl (fun v w h => h) ?_ (d_take rfl 2 true 39 rfl rfl rfl (fun v w h => h) ?_ (d_step rfl rfl ?_ (d_nil)))))))))))))))
        · intro xv_ wx ρ hρ hwx hd K hK
          have e9 : ρ (.tmp 9) = .int .i64 ((k : Nat) : Int) := (hρ.inn 9 rfl).trans s9
          refine g_move rfl e9 ?_
          exact hK _ _ (Below.refl _ _) rfl
        · intro xv_ wx ρ hρ hwx hd K hK
          obtain r0 : xv_ 0 = .int .i64 ((k : Nat) : Int) := hd 0 rfl
          have e37 : ρ (.tmp 37) = .int .i64 ((k : Nat) : Int) := (hρ.out 0 37 rfl (by rw [hs.size]; decide) rfl).trans r0
          refine g_gtr rfl e37 ((hρ.cst _)) ?_
          exact hK _ _ (Below.refl _ _) (congrArg Value.bool (decide_eq_true hk0))
        · intro xv_ wx ρ hρ hwx hd K hK
          obtain r1 : xv_ 1 = .bool true := hd 1 rfl
          have e38 : ρ (.tmp 38) = .bool true := (hρ.out 1 38 rfl (by rw [hs.size]; decide) rfl).trans r1
          refine g_move rfl e38 ?_
          exact hK _ _ (Below.refl _ _) rfl
        · intro xv_ wx ρ hρ hwx hd K hK
          have e2 : ρ (.tmp 2) = .pointer (some ⟨q2, 0, none⟩) := (hρ.inn 2 rfl).trans s2
          refine g_field (r := 4) rfl e2 Try.underlying32 rfl (fun w => Try.sizeOf26 w) rfl rfl ?_
          exact hK _ _ (Below.refl _ _) rfl
        · intro xv_ wx ρ hρ hwx hd K hK
          obtain r3 : xv_ 3 = .pointer (some ⟨q2, 4, none⟩) := hd 3 rfl
          have e40 : ρ (.tmp 40) = .pointer (some ⟨q2, 4, none⟩) := (hρ.out 3 40 rfl (by rw [hs.size]; decide) rfl).trans r3
          have h_q2 := keep_below h_q2 hwx
          refine g_load rfl e40 Try.isAgg26 (box_cell h_q2 rfl) ?_
          exact hK _ _ (Below.refl _ _) rfl
        · intro xv_ wx ρ hρ hwx hd K hK
          have e9 : ρ (.tmp 9) = .int .i64 ((k : Nat) : Int) := (hρ.inn 9 rfl).trans s9
          refine g_move rfl e9 ?_
          exact hK _ _ (Below.refl _ _) rfl
        · intro xv_ wx ρ hρ hwx hd K hK
          obtain r5 : xv_ 5 = .int .i64 ((k : Nat) : Int) := hd 5 rfl
          have e42 : ρ (.tmp 42) = .int .i64 ((k : Nat) : Int) := (hρ.out 5 42 rfl (by rw [hs.size]; decide) rfl).trans r5
          refine g_sub (r := ((k - 1 : Nat) : Int)) rfl e42 ((hρ.cst _)) (by omega) (by omega) ?_
          exact hK _ _ (Below.refl _ _) rfl
        · intro xv_ wx ρ hρ hwx hd K hK
          obtain r4 : xv_ 4 = .slice oA b.os.length oc := hd 4 rfl
          have e41 : ρ (.tmp 41) = .slice oA b.os.length oc := (hρ.out 4 41 rfl (by rw [hs.size]; decide) rfl).trans r4
          obtain r6 : xv_ 6 = .int .i64 ((k - 1 : Nat) : Int) := hd 6 rfl
          have e43 : ρ (.tmp 43) = .int .i64 ((k - 1 : Nat) : Int) := (hρ.out 6 43 rfl (by rw [hs.size]; decide) rfl).trans r6
          refine g_index (r := o41 + (k - 1) * 5) (k := k - 1) rfl (e41.trans (slice_at hA42)) e43 Try.underlying26 (fun w => Try.sizeOf45 w) (by omega) rfl ?_
          exact hK _ _ (Below.refl _ _) rfl
        · intro xv_ wx ρ hρ hwx hd K hK
          obtain r7 : xv_ 7 = .pointer (some ⟨b40, o41 + (k - 1) * 5, none⟩) := hd 7 rfl
          have e44 : ρ (.tmp 44) = .pointer (some ⟨b40, o41 + (k - 1) * 5, none⟩) := (hρ.out 7 44 rfl (by rw [hs.size]; decide) rfl).trans r7
          refine g_field (r := o41 + (k - 1) * 5 + 1) rfl e44 Try.underlying45 rfl (fun w => Try.sizeOf40 w) rfl rfl ?_
          exact hK _ _ (Below.refl _ _) rfl
        · intro xv_ wx ρ hρ hwx hd K hK
          obtain r8 : xv_ 8 = .pointer (some ⟨b40, o41 + (k - 1) * 5 + 1, none⟩) := hd 8 rfl
          have e45 : ρ (.tmp 45) = .pointer (some ⟨b40, o41 + (k - 1) * 5 + 1, none⟩) := (hρ.out 8 45 rfl (by rw [hs.size]; decide) rfl).trans r8
          refine g_field (r := o41 + (k - 1) * 5 + 2) rfl e45 Try.underlying40 rfl (fun w => Try.sizeOf3 w) rfl rfl ?_
          exact hK _ _ (Below.refl _ _) rfl
        · intro xv_ wx ρ hρ hwx hd K hK
          obtain r9 : xv_ 9 = .pointer (some ⟨b40, o41 + (k - 1) * 5 + 2, none⟩) := hd 9 rfl
          have e46 : ρ (.tmp 46) = .pointer (some ⟨b40, o41 + (k - 1) * 5 + 2, none⟩) := (hρ.out 9 46 rfl (by rw [hs.size]; decide) rfl).trans r9
          have hc43 := elem_below hc43 hwx hl_hc43
          refine g_load rfl e46 Try.isAgg3 (by first | exact hc43 2 _ (by decide) rfl | (rw [Nat.add_assoc]; exact hc43 2 _ (by decide) rfl)) ?_
          exact hK _ _ (Below.refl _ _) rfl
        · intro xv_ wx ρ hρ hwx hd K hK
          have e3 : ρ (.tmp 3) = .pointer (some ⟨q4, 0, none⟩) := (hρ.inn 3 rfl).trans s3
          refine g_field (r := 1) rfl e3 Try.underlying40 rfl (fun w => Try.sizeOf3 w) rfl rfl ?_
          exact hK _ _ (Below.refl _ _) rfl
        · intro xv_ wx ρ hρ hwx hd K hK
          obtain r11 : xv_ 11 = .pointer (some ⟨q4, 1, none⟩) := hd 11 rfl
          have e48 : ρ (.tmp 48) = .pointer (some ⟨q4, 1, none⟩) := (hρ.out 11 48 rfl (by rw [hs.size]; decide) rfl).trans r11
          have h_q4 := keep_below h_q4 hwx
          refine g_load rfl e48 Try.isAgg3 (box_cell h_q4 rfl) ?_
          exact hK _ _ (Below.refl _ _) rfl
        · intro xv_ wx ρ hρ hwx hd K hK
          obtain r10 : xv_ 10 = .int .i64 (b.os[k - 1].f2) := hd 10 rfl
          have e47 : ρ (.tmp 47) = .int .i64 (b.os[k - 1].f2) := (hρ.out 10 47 rfl (by rw [hs.size]; decide) rfl).trans r10
          obtain r12 : xv_ 12 = .int .i64 ot := hd 12 rfl
          have e49 : ρ (.tmp 49) = .int .i64 ot := (hρ.out 12 49 rfl (by rw [hs.size]; decide) rfl).trans r12
          refine g_gtr rfl e47 e49 ?_
          exact hK _ _ (Below.refl _ _) rfl
        · intro xv_ wx ρ hρ hwx hd K hK
          obtain r2 : xv_ 2 = .bool true := hd 2 rfl
          have e39 : ρ (.tmp 39) = .bool true := (hρ.out 2 39 rfl (by rw [hs.size]; decide) rfl).trans r2
          obtain r13 : xv_ 13 = .bool (decide (ot < b.os[k - 1].f2)) := hd 13 rfl
          have e50 : ρ (.tmp 50) = .bool (decide (ot < b.os[k - 1].f2)) := (hρ.out 13 50 rfl (by rw [hs.size]; decide) rfl).trans r13
          refine g_pick_t rfl e39 e50 ?_
          exact hK _ _ (Below.refl _ _) rfl
      · intro x0_ w44 hb_w44 hr0
        obtain r0 : x0_ 0 = .int .i64 ((k : Nat) : Int) := hr0 0 (by decide) rfl rfl
        obtain r1 : x0_ 1 = .bool true := hr0 1 (by decide) rfl rfl
        obtain r2 : x0_ 2 = .bool true := hr0 2 (by decide) rfl rfl
        obtain r3 : x0_ 3 = .pointer (some ⟨q2, 4, none⟩) := hr0 3 (by decide) rfl rfl
        obtain r4 : x0_ 4 = .slice oA b.os.length oc := hr0 4 (by decide) rfl rfl
        obtain r5 : x0_ 5 = .int .i64 ((k : Nat) : Int) := hr0 5 (by decide) rfl rfl
        obtain r6 : x0_ 6 = .int .i64 ((k - 1 : Nat) : Int) := hr0 6 (by decide) rfl rfl
        obtain r7 : x0_ 7 = .pointer (some ⟨b40, o41 + (k - 1) * 5, none⟩) := hr0 7 (by decide) rfl rfl
        obtain r8 : x0_ 8 = .pointer (some ⟨b40, o41 + (k - 1) * 5 + 1, none⟩) := hr0 8 (by decide) rfl rfl
        obtain r9 : x0_ 9 = .pointer (some ⟨b40, o41 + (k - 1) * 5 + 2, none⟩) := hr0 9 (by decide) rfl rfl
        obtain r10 : x0_ 10 = .int .i64 (b.os[k - 1].f2) := hr0 10 (by decide) rfl rfl
        obtain r11 : x0_ 11 = .pointer (some ⟨q4, 1, none⟩) := hr0 11 (by decide) rfl rfl
        obtain r12 : x0_ 12 = .int .i64 ot := hr0 12 (by decide) rfl rfl
        obtain r13 : x0_ 13 = .bool (decide (ot < b.os[k - 1].f2)) := hr0 13 (by decide) rfl rfl
        obtain r14 : x0_ 14 = .bool (decide (ot < b.os[k - 1].f2)) := hr0 14 (by decide) rfl rfl
        clear hr0
        replace h_q2 := keep_below h_q2 hb_w44
        replace h_q4 := keep_below h_q4 hb_w44
        replace h_q6 := keep_below h_q6 hb_w44
        replace h_q11 := keep_below h_q11 hb_w44
        replace h_q25 := keep_below h_q25 hb_w44
        replace o_p9 := own_below o_p9 hb_w44
        replace o_l9 := own_below o_l9 hb_w44
        replace o_o9 := own_below o_o9 hb_w44
        replace o_d9 := own_below o_d9 hb_w44
        replace o_r9 := own_below o_r9 hb_w44
        replace o_x9 := own_below o_x9 hb_w44
        replace o_q9 := own_below o_q9 hb_w44
        replace hB := hB.trans (hb_w44.mono hB.size)
        clear hb_w44
        intro xv_ a36 hρ hsz hdf qx_ ql_ qk_ qlk_
        replace s2 : a36.eval (.tmp 2) = .pointer (some ⟨q2, 0, none⟩) := (hρ.inn 2 rfl).trans s2
        replace s3 : a36.eval (.tmp 3) = .pointer (some ⟨q4, 0, none⟩) := (hρ.inn 3 rfl).trans s3
        replace s4 : a36.eval (.tmp 4) = .pointer (some ⟨q6, 0, none⟩) := (hρ.inn 4 rfl).trans s4
        replace s5 : a36.eval (.tmp 5) = .bool false := (hρ.inn 5 rfl).trans s5
        replace s6 : a36.eval (.tmp 6) = .pointer (some ⟨q11, 0, none⟩) := (hρ.inn 6 rfl).trans s6
        replace s7 : a36.eval (.tmp 7) = .pointer (some ⟨q25, 0, none⟩) := (hρ.inn 7 rfl).trans s7
        replace s8 : a36.eval (.tmp 8) = .bool true := (hρ.inn 8 rfl).trans s8
        replace s9 : a36.eval (.tmp 9) = .int .i64 ((k : Nat) : Int) := (hρ.inn 9 rfl).trans s9
        have s51 : a36.eval (.tmp 51) = .bool (decide (ot < b.os[k - 1].f2)) := (hρ.out 14 51 rfl (by rw [hs.size]; decide)).trans ((qx_ 14 (by decide) rfl rfl).trans r14)
        replace hs : St 86 a36 := ⟨hsz.trans hs.size, hdf.trans hs.nodef⟩
        clear hρ hsz hdf qx_ ql_ qk_ qlk_
        refine hK39 _ _ ?_
        clear hK39
        by_cases hlt2 : ot < b.os[k - 1].f2
        · replace s51 : a36.eval (.tmp 51) = .bool true := (s51).trans (congrArg Value.bool (decide_eq_true hlt2))
          refine c_true s51 ?_
          refine wp_skip ?_
          refine hK38 _ _ ?_
          clear hK38
          refine wp_block ?_
          refine wp_region_lit ?_
          refine q_v hs rfl rfl rfl (g_move rfl s9 ?_)
          intro a37 p37
          refine q_v p37.s rfl rfl rfl (g_sub (r := ((k - 1 : Nat) : Int)) rfl p37.v rfl (by omega) (by omega) ?_)
          intro a38 p38
          refine q_v p38.s rfl rfl rfl (g_assign rfl p38.v ?_)
          intro a39 p39
          refine wpList_nil ?_
          have kc36 := (((Kps.nil a36).u p37).u p38).u p39
          replace s2 := kc36.k s2 rfl
          replace s3 := kc36.k s3 rfl
          replace s4 := kc36.k s4 rfl
          replace s5 := kc36.k s5 rfl
          replace s6 := kc36.k s6 rfl
          replace s7 := kc36.k s7 rfl
          replace s8 := kc36.k s8 rfl
          replace s9 := p39.v
          replace s51 := kc36.k s51 rfl
          clear kc36
          refine show _ ∧ _ from ⟨⟨k - 1, p39.s, s2, s3, s4, s5, s6, s7, s8, s9, hB, h_q2, h_q4, h_q6, h_q11, h_q25, o_p9, o_l9, o_o9, o_d9, o_r9, o_x9, o_q9, (by omega), (accN_go (by omega) hk1 hlt2 hp)⟩, ?_⟩
          show (intOf (a39.eval (.tmp 9))).toNat < (intOf (a35.eval (.tmp 9))).toNat
          rw [s9, mu37]
          simp only [intOf]
          omega
        replace s51 : a36.eval (.tmp 51) = .bool false := (s51).trans (congrArg Value.bool (decide_eq_false hlt2))
        refine c_false s51 ?_
        refine wp_exit ?_
        refine hK34 _ _ ?_
        clear hK34
        have hkp : k = accPos b.os ot := accN_stop (.inr ⟨hk1, hlt2⟩) hp
        have hkl : k ≤ b.os.length := hk
        obtain ⟨A49, hA_v50⟩ : ∃ x_, x_ = tailA 5 oA oc k := ⟨_, rfl⟩
        have T_v50 : Tail 5 oA A49 b.os.length oc k := hA_v50 ▸ tailA_of 5 oA b.os.length oc k hnc_o
        refine J.wp_drawn (J := fun w_ => w_.heap[q2]? = some (.cells #[.int .i64 b.clk, .slice pA b.ps.length pc, .bool b.safe, .slice lA b.ls.length lc, .slice oA b.os.length oc, .slice dA b.ds.length dc, .int .i64 b.room, .slice rA b.rs.length rc, .slice xA b.xs.length xc, .int .i64 b.made, .int .i64 b.taken, .slice qA b.qs.length qc] 32 (0, 0))) (n := 86) [9, 10, 11, 12] [8, 13, 14, 15] [] (fun k_ v_ wx => match k_ with | 0 => ∃ q45, v_ = .slice (some ⟨q45, 0, none⟩) 0 0 ∧ w44.heap.size ≤ q45 ∧ wx.heap[q45]? = some (.cells #[] 45 (0, 0)) | 1 => v_ = .pointer (some ⟨q2, 4, none⟩) | 2 => v_ = .slice oA b.os.length oc | 3 => v_ = .int .i64 ((k : Nat) : Int) | 4 => v_ = .slice oA k oc | 5 => ∃ (A_r47 : Option Addr) (c_r47 : Nat), v_ = .slice A_r47 k c_r47 ∧ ((wx).ownsRow w44.heap.size 45 5 (.slice A_r47 k c_r47) k ((b.os.take k).flatMap cWaiting)) ∧ (k = 0 → c_r47 = 0) | 6 => v_ = .agg #[.int .i64 b.taken, .int .i64 ok, .int .i64 ot, .int .i64 oa, .int .i64 ob] | 7 => ∃ q48, v_ = .slice (some ⟨q48, 0, none⟩) 1 1 ∧ w44.heap.size ≤ q48 ∧ wx.heap[q48]? = some (.cells #[.int .i64 b.taken, .int .i64 ok, .int .i64 ot, .int .i64 oa, .int .i64 ob] 45 (0, 0)) | 9 => v_ = .pointer (some ⟨q2, 4, none⟩) | 10 => v_ = .slice oA b.os.length oc | 11 => v_ = .int .i64 ((k : Nat) : Int) | 12 => v_ = .slice A49 (b.os.length - k) (oc - k) | _ => True) (by kernel_rfl) (by kernel_rfl) (by kernel_rfl) (by kernel_rfl) hs.size ?_ ?_ (fun w_ hb_ => keep_below h_q2 hb_) ?_
        · intro i v wa wb hb hr
          rcases i with _ | _ | _ | _ | _ | _ | _ | _ | _ | _ | _ | _ | _ | _ | _ | _ | i
          · obtain ⟨q45, hr, hg, hh⟩ := hr; exact ⟨q45, hr, hg, keep_below hh hb⟩
          · exact hr
          · exact hr
          · exact hr
          · exact hr
          · obtain ⟨A_r47, c_r47, hr, o_r47, z_r47⟩ := hr; exact ⟨A_r47, c_r47, hr, own_below o_r47 hb, z_r47⟩
          · exact hr
          · obtain ⟨q48, hr, hg, hh⟩ := hr; exact ⟨q48, hr, hg, keep_below hh hb⟩
          · trivial
          · exact hr
          · exact hr
          · exact hr
          · exact hr
          · trivial
          · trivial
          · trivial
          · trivial
        · refine J.d_step rfl rfl ?_ (J.d_step rfl rfl ?_ (J.d_step rfl rfl ?_ (J.d_step rfl rfl ?_ (J.d_step rfl rfl ?_ (J.d_step rfl rfl ?_ (J.d_step rfl rfl ?_ (J.d_step rfl rfl ?_ (J.d_chain rfl (J.d_late rfl rfl ?_ (J.d_late rfl rfl ?_ (J.d_late rfl rfl ?_ (J.d_late rfl rfl ?_ (J.d_chain rfl (J.d_chain rfl (J.d_chain rfl (J.d_nil))))))))))))))))
          · intro xv_ wx ρ hρ hwx hd K hK
            refine g_bslice0 rfl Try.underlying26 Try.sizeOf45 ?_
            intro q w' N
            exact hK _ _ N.below ⟨q, rfl, Nat.le_trans hwx.size N.lo, N.here⟩
          · intro xv_ wx ρ hρ hwx hd K hK
            have e2 : ρ (.tmp 2) = .pointer (some ⟨q2, 0, none⟩) := (hρ.inn 2 rfl).trans s2
            refine g_field (r := 4) rfl e2 Try.underlying32 rfl (fun w => Try.sizeOf26 w) rfl rfl ?_
            exact hK _ _ (Below.refl _ _) rfl
          · intro xv_ wx ρ hρ hwx hd K hK
            obtain r1 : xv_ 1 = .pointer (some ⟨q2, 4, none⟩) := hd 1 rfl
            have e55 : ρ (.tmp 55) = .pointer (some ⟨q2, 4, none⟩) := (hρ.out 1 55 rfl (by rw [hs.size]; decide) rfl).trans r1
            have h_q2 := keep_below h_q2 hwx
            refine g_load rfl e55 Try.isAgg26 (box_cell h_q2 rfl) ?_
            exact hK _ _ (Below.refl _ _) rfl
          · intro xv_ wx ρ hρ hwx hd K hK
            have e9 : ρ (.tmp 9) = .int .i64 ((k : Nat) : Int) := (hρ.inn 9 rfl).trans s9
            refine g_move rfl e9 ?_
            exact hK _ _ (Below.refl _ _) rfl
          · intro xv_ wx ρ hρ hwx hd K hK
            obtain r2 : xv_ 2 = .slice oA b.os.length oc := hd 2 rfl
            have e56 : ρ (.tmp 56) = .slice oA b.os.length oc := (hρ.out 2 56 rfl (by rw [hs.size]; decide) rfl).trans r2
            obtain r3 : xv_ 3 = .int .i64 ((k : Nat) : Int) := hd 3 rfl
            have e57 : ρ (.tmp 57) = .int .i64 ((k : Nat) : Int) := (hρ.out 3 57 rfl (by rw [hs.size]; decide) rfl).trans r3
            refine g_head rfl e56 e57 Try.underlying26 (fun w => Try.sizeOf45 w) (by have := hnc_o; omega) ?_
            exact hK _ _ (Below.refl _ _) rfl
          · intro xv_ wx ρ hρ hwx hd K hK
            obtain ⟨q45, r0, g0_q45, h_q45⟩ : ∃ q45, xv_ 0 = .slice (some ⟨q45, 0, none⟩) 0 0 ∧ w44.heap.size ≤ q45 ∧ wx.heap[q45]? = some (.cells #[] 45 (0, 0)) := hd 0 rfl
            have e54 : ρ (.tmp 54) = .slice (some ⟨q45, 0, none⟩) 0 0 := (hρ.out 0 54 rfl (by rw [hs.size]; decide) rfl).trans r0
            obtain r4 : xv_ 4 = .slice oA k oc := hd 4 rfl
            have e58 : ρ (.tmp 58) = .slice oA k oc := (hρ.out 4 58 rfl (by rw [hs.size]; decide) rfl).trans r4
            refine g_append_fresh0 (news := (b.os.take k).flatMap cWaiting) w44.heap.size (.agg #[.int .i64 0, .int .i64 0, .int .i64 0, .int .i64 0, .int .i64 0]) 5 40 rfl e54 e58 Try.underlying26 infoWaiting rfl (by decide) g0_q45 h_q45 (fun h => by have hz := hnn_o h; omega) ((Rd.take cWaiting_len (hr_o.below hB) rfl (by omega)).below hwx) (flatWaiting_one _) (by omega) hwx.size (by decide) ?_
            intro A c w' ho hz hb
            exact hK _ _ hb ⟨A, c, rfl, ho, hz⟩
          · intro xv_ wx ρ hρ hwx hd K hK
            have e7 : ρ (.tmp 7) = .pointer (some ⟨q25, 0, none⟩) := (hρ.inn 7 rfl).trans s7
            have h_q25 := keep_below h_q25 hwx
            refine g_loadB rfl e7 Try.isAgg45 Try.sizeOf45 rfl h_q25 ?_
            exact hK _ _ (Below.refl _ _) rfl
          · intro xv_ wx ρ hρ hwx hd K hK
            obtain r6 : xv_ 6 = .agg #[.int .i64 b.taken, .int .i64 ok, .int .i64 ot, .int .i64 oa, .int .i64 ob] := hd 6 rfl
            have e60 : ρ (.tmp 60) = .agg #[.int .i64 b.taken, .int .i64 ok, .int .i64 ot, .int .i64 oa, .int .i64 ob] := (hρ.out 6 60 rfl (by rw [hs.size]; decide) rfl).trans r6
            refine g_bslice1 (cs := #[.int .i64 b.taken, .int .i64 ok, .int .i64 ot, .int .i64 oa, .int .i64 ob]) rfl Try.underlying26 Try.sizeOf45 Try.zeroValue45 e60 (by kernel_rfl) rfl (by decide) ?_
            intro q w' N
            exact hK _ _ N.below ⟨q, rfl, Nat.le_trans hwx.size N.lo, N.here⟩
          · intro xv_ wx ρ hρ hwx hd
            have e2 : ρ (.tmp 2) = .pointer (some ⟨q2, 0, none⟩) := (hρ.inn 2 rfl).trans s2
            exact ⟨_, fun w' hj_ => l_fieldAddr (r := 4) rfl e2 Try.underlying32 rfl (fun w => Try.sizeOf26 w) rfl rfl, rfl⟩
          · intro xv_ wx ρ hρ hwx hd
            obtain r9 : xv_ 9 = .pointer (some ⟨q2, 4, none⟩) := hd 9 rfl rfl
            have e63 : ρ (.tmp 63) = .pointer (some ⟨q2, 4, none⟩) := (hρ.out 9 63 rfl (by rw [hs.size]; decide) rfl).trans r9
            exact ⟨_, fun w' hj_ => l_load rfl e63 Try.isAgg26 (box_cell hj_ rfl), rfl⟩
          · intro xv_ wx ρ hρ hwx hd
            have e9 : ρ (.tmp 9) = .int .i64 ((k : Nat) : Int) := (hρ.inn 9 rfl).trans s9
            exact ⟨_, fun w' hj_ => l_move rfl e9, rfl⟩
          · intro xv_ wx ρ hρ hwx hd
            obtain r10 : xv_ 10 = .slice oA b.os.length oc := hd 10 rfl rfl
            have e64 : ρ (.tmp 64) = .slice oA b.os.length oc := (hρ.out 10 64 rfl (by rw [hs.size]; decide) rfl).trans r10
            obtain r11 : xv_ 11 = .int .i64 ((k : Nat) : Int) := hd 11 rfl rfl
            have e65 : ρ (.tmp 65) = .int .i64 ((k : Nat) : Int) := (hρ.out 11 65 rfl (by rw [hs.size]; decide) rfl).trans r11
            exact ⟨_, fun w' hj_ => l_tailD rfl e64 e65 Try.underlying26 (fun w => Try.sizeOf45 w) (by omega) rfl rfl hA_v50, rfl⟩
        · intro x0_ w51 hb_w51 hr0
          obtain ⟨q45, r0, g0_q45, h_q45⟩ : ∃ q45, x0_ 0 = .slice (some ⟨q45, 0, none⟩) 0 0 ∧ w44.heap.size ≤ q45 ∧ w51.heap[q45]? = some (.cells #[] 45 (0, 0)) := hr0 0 (by decide) rfl rfl
          obtain r1 : x0_ 1 = .pointer (some ⟨q2, 4, none⟩) := hr0 1 (by decide) rfl rfl
          obtain r2 : x0_ 2 = .slice oA b.os.length oc := hr0 2 (by decide) rfl rfl
          obtain r3 : x0_ 3 = .int .i64 ((k : Nat) : Int) := hr0 3 (by decide) rfl rfl
          obtain r4 : x0_ 4 = .slice oA k oc := hr0 4 (by decide) rfl rfl
          obtain ⟨A_r47, c_r47, r5, o_r47, z_r47⟩ : ∃ (A_r47 : Option Addr) (c_r47 : Nat), x0_ 5 = .slice A_r47 k c_r47 ∧ ((w51).ownsRow w44.heap.size 45 5 (.slice A_r47 k c_r47) k ((b.os.take k).flatMap cWaiting)) ∧ (k = 0 → c_r47 = 0) := hr0 5 (by decide) rfl rfl
          obtain r6 : x0_ 6 = .agg #[.int .i64 b.taken, .int .i64 ok, .int .i64 ot, .int .i64 oa, .int .i64 ob] := hr0 6 (by decide) rfl rfl
          obtain ⟨q48, r7, g0_q48, h_q48⟩ : ∃ q48, x0_ 7 = .slice (some ⟨q48, 0, none⟩) 1 1 ∧ w44.heap.size ≤ q48 ∧ w51.heap[q48]? = some (.cells #[.int .i64 b.taken, .int .i64 ok, .int .i64 ot, .int .i64 oa, .int .i64 ob] 45 (0, 0)) := hr0 7 (by decide) rfl rfl
          clear hr0
          have d_r47_q2 := own_ne_box o_r47 (lt_of_block h_q2)
          have d_r47_q6 := own_ne_box o_r47 (lt_of_block h_q6)
          have d_r47_q11 := own_ne_box o_r47 (lt_of_block h_q11)
          have d_r47_q25 := own_ne_box o_r47 (lt_of_block h_q25)
          have m_p9_r47 := own_ne_row o_p9 o_r47 (Nat.le_refl _)
          have m_l9_r47 := own_ne_row o_l9 o_r47 (Nat.le_refl _)
          have m_o9_r47 := own_ne_row o_o9 o_r47 (Nat.le_refl _)
          have m_d9_r47 := own_ne_row o_d9 o_r47 (Nat.le_refl _)
          have m_r9_r47 := own_ne_row o_r9 o_r47 (Nat.le_refl _)
          have m_x9_r47 := own_ne_row o_x9 o_r47 (Nat.le_refl _)
          have m_q9_r47 := own_ne_row o_q9 o_r47 (Nat.le_refl _)
          have g_r47 : ∀ b, (A_r47 : Option Addr).map (·.block) = some b → w.heap.size ≤ b := fun b h => Nat.le_trans hB.size (own_row o_r47 b h).1
          replace o_r47 := own_base (base := w.heap.size) o_r47 hB.size
          clear g0_q48
          replace h_q2 := keep_below h_q2 hb_w51
          replace h_q6 := keep_below h_q6 hb_w51
          replace h_q11 := keep_below h_q11 hb_w51
          replace h_q25 := keep_below h_q25 hb_w51
          replace o_p9 := own_below o_p9 hb_w51
          replace o_l9 := own_below o_l9 hb_w51
          replace o_o9 := own_below o_o9 hb_w51
          replace o_d9 := own_below o_d9 hb_w51
          replace o_r9 := own_below o_r9 hb_w51
          replace o_x9 := own_below o_x9 hb_w51
          replace o_q9 := own_below o_q9 hb_w51
          replace hB := hB.trans (hb_w51.mono hB.size)
          clear hb_w51
          intro op_ ho_ xv_ ρ hρ qx_ ql_ qk_
          obtain rfl := Option.some.inj ho_
          clear ho_
          have e59 : ρ (.tmp 59) = .slice A_r47 k c_r47 := (hρ.out 5 59 rfl (by rw [hs.size]; decide) rfl).trans ((qx_ 5 (by decide) rfl rfl).trans r5)
          have e61 : ρ (.tmp 61) = .slice (some ⟨q48, 0, none⟩) 1 1 := (hρ.out 7 61 rfl (by rw [hs.size]; decide) rfl).trans ((qx_ 7 (by decide) rfl rfl).trans r7)
          refine g_append (n' := k + 1) (ys := ((b.os.take k) ++ [(⟨b.taken, ok, ot, oa, ob⟩ : EWaiting)]).flatMap cWaiting) w.heap.size (.agg #[.int .i64 0, .int .i64 0, .int .i64 0, .int .i64 0, .int .i64 0]) 5 40 rfl e59 e61 Try.underlying26 infoWaiting rfl (by decide) o_r47 (fun h => by cases h) (rd_box (xs := ([(⟨b.taken, ok, ot, oa, ob⟩ : EWaiting)]).flatMap cWaiting) h_q48 rfl rfl) (flatWaiting_one _) (by omega) hB.size (by decide) (by omega) (by first | rfl | simp [List.flatMap_append] | (simp [List.flatMap_append, cWaiting]; done)) ?_
          intro A_r52 c_r52 w53 P_r52
          have d_r52_q2 := P_r52.ne d_r47_q2 (lt_of_block h_q2)
          have d_r52_q6 := P_r52.ne d_r47_q6 (lt_of_block h_q6)
          have d_r52_q11 := P_r52.ne d_r47_q11 (lt_of_block h_q11)
          have d_r52_q25 := P_r52.ne d_r47_q25 (lt_of_block h_q25)
          have m_p9_r52 := P_r52.row m_p9_r47 o_p9
          have m_l9_r52 := P_r52.row m_l9_r47 o_l9
          have m_o9_r52 := P_r52.row m_o9_r47 o_o9
          have m_d9_r52 := P_r52.row m_d9_r47 o_d9
          have m_r9_r52 := P_r52.row m_r9_r47 o_r9
          have m_x9_r52 := P_r52.row m_x9_r47 o_x9
          have m_q9_r52 := P_r52.row m_q9_r47 o_q9
          have g_r52 := P_r52.ge g_r47 hB.size
          replace h_q2 := keep_grown h_q2 P_r52.grown d_r47_q2
          replace h_q6 := keep_grown h_q6 P_r52.grown d_r47_q6
          replace h_q11 := keep_grown h_q11 P_r52.grown d_r47_q11
          replace h_q25 := keep_grown h_q25 P_r52.grown d_r47_q25
          replace o_p9 := own_grown o_p9 P_r52.grown m_p9_r47
          replace o_l9 := own_grown o_l9 P_r52.grown m_l9_r47
          replace o_o9 := own_grown o_o9 P_r52.grown m_o9_r47
          replace o_d9 := own_grown o_d9 P_r52.grown m_d9_r47
          replace o_r9 := own_grown o_r9 P_r52.grown m_r9_r47
          replace o_x9 := own_grown o_x9 P_r52.grown m_x9_r47
          replace o_q9 := own_grown o_q9 P_r52.grown m_q9_r47
          replace hB := below_grown hB hB.size P_r52.grown g_r47
          have o_r52 := P_r52.own
          clear P_r52
          refine ⟨h_q2, ?_⟩
          clear hρ qx_ ql_ qk_
          clear e59 e61
          intro op_ ho_ xv_ ρ hρ qx_ ql_ qk_
          obtain rfl := Option.some.inj ho_
          clear ho_
          have e62 : ρ (.tmp 62) = .slice A_r52 (k + 1) c_r52 := (hρ.out 8 62 rfl (by rw [hs.size]; decide) rfl).trans (qk_ (8, _) (by simp))
          have e66 : ρ (.tmp 66) = .slice A49 (b.os.length - k) (oc - k) := (hρ.out 12 66 rfl (by rw [hs.size]; decide) rfl).trans (ql_ 12 rfl rfl)
          refine g_append (n' := k + 1 + (b.os.length - k)) (ys := (((b.os.take k) ++ [(⟨b.taken, ok, ot, oa, ob⟩ : EWaiting)]) ++ (b.os.drop k)).flatMap cWaiting) w.heap.size (.agg #[.int .i64 0, .int .i64 0, .int .i64 0, .int .i64 0, .int .i64 0]) 5 40 rfl e62 e66 Try.underlying26 infoWaiting rfl (by decide) o_r52 (fun h => by have hz := hnn_o (T_v50.nil h); omega) (T_v50.rd cWaiting_len rfl (by omega) (hr_o.below hB)) (flatWaiting_one _) (by omega) hB.size (by decide) (by omega) (by first | rfl | simp [List.flatMap_append] | (simp [List.flatMap_append, cWaiting]; done)) ?_
          intro A_r54 c_r54 w55 P_r54
          have d_r54_q6 := P_r54.ne d_r52_q6 (lt_of_block h_q6)
          have d_r54_q11 := P_r54.ne d_r52_q11 (lt_of_block h_q11)
          replace h_q2 := keep_grown h_q2 P_r54.grown d_r52_q2
          replace h_q6 := keep_grown h_q6 P_r54.grown d_r52_q6
          replace h_q11 := keep_grown h_q11 P_r54.grown d_r52_q11
          replace h_q25 := keep_grown h_q25 P_r54.grown d_r52_q25
          replace o_p9 := own_grown o_p9 P_r54.grown m_p9_r52
          replace o_l9 := own_grown o_l9 P_r54.grown m_l9_r52
          replace o_o9 := own_grown o_o9 P_r54.grown m_o9_r52
          replace o_d9 := own_grown o_d9 P_r54.grown m_d9_r52
          replace o_r9 := own_grown o_r9 P_r54.grown m_r9_r52
          replace o_x9 := own_grown o_x9 P_r54.grown m_x9_r52
          replace o_q9 := own_grown o_q9 P_r54.grown m_q9_r52
          replace hB := below_grown hB hB.size P_r54.grown g_r52
          have o_r54 := P_r54.own
          clear P_r54
          refine ⟨h_q2, ?_⟩
          clear hρ qx_ ql_ qk_
          clear e62 e66
          intro op_ ho_ xv_ ρ hρ qx_ ql_ qk_
          obtain rfl := Option.some.inj ho_
          clear ho_
          have e6 : ρ (.tmp 6) = .pointer (some ⟨q11, 0, none⟩) := (hρ.inn 6 rfl).trans s6
          refine g_field (r := 4) rfl e6 Try.underlying32 rfl (fun w => Try.sizeOf26 w) rfl rfl ?_
          refine ⟨h_q2, ?_⟩
          clear hρ qx_ ql_ qk_
          clear e6
          intro op_ ho_ xv_ ρ hρ qx_ ql_ qk_
          obtain rfl := Option.some.inj ho_
          clear ho_
          have e68 : ρ (.tmp 68) = .pointer (some ⟨q11, 4, none⟩) := (hρ.out 14 68 rfl (by rw [hs.size]; decide) rfl).trans (qk_ (14, _) (by simp))
          have e67 : ρ (.tmp 67) = .slice A_r54 (k + 1 + (b.os.length - k)) c_r54 := (hρ.out 13 67 rfl (by rw [hs.size]; decide) rfl).trans (qk_ (13, _) (by simp))
          refine g_store (cs' := #[.int .i64 b.clk, .slice pA9 b.ps.length pc9, .bool b.safe, .slice lA9 b.ls.length lc9, .slice A_r54 (k + 1 + (b.os.length - k)) c_r54, .slice dA9 b.ds.length dc9, .int .i64 b.room, .slice rA9 b.rs.length rc9, .slice xA9 b.xs.length xc9, .int .i64 b.made, .int .i64 (b.taken + 1), .slice qA9 b.qs.length qc9]) rfl e68 e67 Try.sizeOf26 rfl h_q11 (Nat.le_of_ble_eq_true rfl) rfl ?_
          intro w56 W_w56
          replace h_q2 := keep_wrote h_q2 W_w56 n_q11_q2
          replace h_q6 := keep_wrote h_q6 W_w56 n_q11_q6
          replace h_q11 := W_w56.here
          replace h_q25 := keep_wrote h_q25 W_w56 n_q11_q25
          replace o_p9 := own_wrote o_p9 W_w56 d_p9_q11
          replace o_l9 := own_wrote o_l9 W_w56 d_l9_q11
          replace o_o9 := own_wrote o_o9 W_w56 d_o9_q11
          replace o_d9 := own_wrote o_d9 W_w56 d_d9_q11
          replace o_r9 := own_wrote o_r9 W_w56 d_r9_q11
          replace o_x9 := own_wrote o_x9 W_w56 d_x9_q11
          replace o_q9 := own_wrote o_q9 W_w56 d_q9_q11
          replace o_r54 := own_wrote o_r54 W_w56 d_r54_q11
          replace hB := below_wrote hB hB.size W_w56 g_q11.le
          clear W_w56
          refine ⟨h_q2, ?_⟩
          clear e67 e68
          clear hρ qx_ ql_ qk_
          intro xv_ a37 hρ hsz hdf qx_ ql_ qk_ qlk_
          replace s2 : a37.eval (.tmp 2) = .pointer (some ⟨q2, 0, none⟩) := (hρ.inn 2 rfl).trans s2
          replace s4 : a37.eval (.tmp 4) = .pointer (some ⟨q6, 0, none⟩) := (hρ.inn 4 rfl).trans s4
          replace s5 : a37.eval (.tmp 5) = .bool false := (hρ.inn 5 rfl).trans s5
          replace s6 : a37.eval (.tmp 6) = .pointer (some ⟨q11, 0, none⟩) := (hρ.inn 6 rfl).trans s6
          replace s7 : a37.eval (.tmp 7) = .pointer (some ⟨q25, 0, none⟩) := (hρ.inn 7 rfl).trans s7
          replace s8 : a37.eval (.tmp 8) = .bool true := (hρ.inn 8 rfl).trans s8
          replace hs : St 86 a37 := ⟨hsz.trans hs.size, hdf.trans hs.nodef⟩
          clear hρ hsz hdf qx_ ql_ qk_ qlk_
          refine hK31 _ _ ?_
          clear hK31
          refine wp_seq_k fun K57 hK57 => ?_
          refine wp_seq_k fun K58 hK58 => ?_
          refine wp_region_lit ?_
          refine q_v hs rfl rfl rfl (g_loadB rfl s6 Try.isAgg32 Try.sizeOf32 rfl h_q11 ?_)
          intro a38 p38
          refine q_v p38.s rfl rfl rfl ?_
          refine g_call rfl rfl Try.call23 (arr1 p38.v) ?_
          refine (sBoardOk_any (S := (⟨⟨pA9, b.ps.length, pc9⟩, ⟨lA9, b.ls.length, lc9⟩, ⟨A_r54, k + 1 + (b.os.length - k), c_r54⟩, ⟨dA9, b.ds.length, dc9⟩, ⟨rA9, b.rs.length, rc9⟩, ⟨xA9, b.xs.length, xc9⟩, ⟨qA9, b.qs.length, qc9⟩⟩ : BSl)) (b := (⟨b.clk, b.ps, b.safe, b.ls, ((b.os.take k) ++ [(⟨b.taken, ok, ot, oa, ob⟩ : EWaiting)]) ++ (b.os.drop k), b.ds, b.room, b.rs, b.xs, b.made, b.taken + 1, b.qs⟩ : EBoard)) _ ⟨⟨(Rd.of_own o_p9), rfl, (own_nil o_p9), (own_cap o_p9).1⟩, ⟨(Rd.of_own o_l9), rfl, (own_nil o_l9), (own_cap o_l9).1⟩, ⟨(Rd.of_own o_r54), (by simp only [List.length_append, List.length_cons, List.length_nil, List.length_drop, List.length_take] <;> omega), (own_nil o_r54), (own_cap o_r54).1⟩, ⟨(Rd.of_own o_d9), rfl, (own_nil o_d9), (own_cap o_d9).1⟩, ⟨(Rd.of_own o_r9), rfl, (own_nil o_r9), (own_cap o_r9).1⟩, ⟨(Rd.of_own o_x9), rfl, (own_nil o_x9), (own_cap o_x9).1⟩, ⟨(Rd.of_own o_q9), rfl, (own_nil o_q9), (own_cap o_q9).1⟩⟩ ⟨leq_len (n := b.ps.length) rfl (by omega), leq_len (n := b.ls.length) rfl (by omega), leq_len (n := k + 1 + (b.os.length - k)) (by simp only [List.length_append, List.length_cons, List.length_nil, List.length_drop, List.length_take] <;> omega) (by omega), leq_len (n := b.ds.length) rfl (by omega), leq_len (n := b.rs.length) rfl (by omega), leq_len (n := b.xs.length) rfl (by omega), leq_len (n := b.qs.length) rfl (by omega), hW.tx⟩).mono ?_
          rintro e w60 ⟨rfl, hb59⟩
          refine ⟨_, rfl, ?_⟩
          replace h_q2 := keep_below h_q2 hb59
          replace h_q6 := keep_below h_q6 hb59
          replace h_q11 := keep_below h_q11 hb59
          replace h_q25 := keep_below h_q25 hb59
          replace o_p9 := own_below o_p9 hb59
          replace o_l9 := own_below o_l9 hb59
          replace o_o9 := own_below o_o9 hb59
          replace o_d9 := own_below o_d9 hb59
          replace o_r9 := own_below o_r9 hb59
          replace o_x9 := own_below o_x9 hb59
          replace o_q9 := own_below o_q9 hb59
          replace o_r54 := own_below o_r54 hb59
          replace hB := hB.trans (hb59.mono hB.size)
          clear hb59
          intro a39 p39
          refine q_v p39.s rfl rfl rfl (g_not rfl p39.v ?_)
          intro a40 p40
          refine wpList_nil ?_
          have kc37 := (((Kps.nil a37).u p38).u p39).u p40
          replace s2 := kc37.k s2 rfl
          replace s4 := kc37.k s4 rfl
          replace s5 := kc37.k s5 rfl
          replace s6 := kc37.k s6 rfl
          replace s8 := kc37.k s8 rfl
          replace s81 := p40.v
          clear kc37
          refine hK58 _ _ ?_
          clear hK58
          cases hc61 : boOk (⟨b.clk, b.ps, b.safe, b.ls, ((b.os.take k) ++ [(⟨b.taken, ok, ot, oa, ob⟩ : EWaiting)]) ++ (b.os.drop k), b.ds, b.room, b.rs, b.xs, b.made, b.taken + 1, b.qs⟩ : EBoard)
          · replace s81 : a40.eval (.tmp 81) = .bool true := (s81).trans (congrArg (fun b => Value.bool (!b)) hc61)
            refine c_true s81 ?_
            refine wp_seq_k fun K62 hK62 => ?_
            refine wp_region_lit ?_
            refine q_v p40.s rfl rfl rfl (g_loadB rfl s2 Try.isAgg32 Try.sizeOf32 rfl h_q2 ?_)
            intro a41 p41
            refine q_v p41.s rfl rfl rfl ?_
            refine g_call rfl rfl Try.call80 (arr1 p41.v) ?_
            refine (copyBoard_any (S := (⟨⟨pA, b.ps.length, pc⟩, ⟨lA, b.ls.length, lc⟩, ⟨oA, b.os.length, oc⟩, ⟨dA, b.ds.length, dc⟩, ⟨rA, b.rs.length, rc⟩, ⟨xA, b.xs.length, xc⟩, ⟨qA, b.qs.length, qc⟩⟩ : BSl)) (b := b) _ ⟨⟨(hr_p.below hB), rfl, hnn_p, hnc_p⟩, ⟨(hr_l.below hB), rfl, hnn_l, hnc_l⟩, ⟨(hr_o.below hB), rfl, hnn_o, hnc_o⟩, ⟨(hr_d.below hB), rfl, hnn_d, hnc_d⟩, ⟨(hr_r.below hB), rfl, hnn_r, hnc_r⟩, ⟨(hr_x.below hB), rfl, hnn_x, hnc_x⟩, ⟨(hr_q.below hB), rfl, hnn_q, hnc_q⟩⟩ hW).mono ?_
            rintro e w64 ⟨⟨⟨pA63, pn63, pc63⟩, ⟨lA63, ln63, lc63⟩, ⟨oA63, on63, oc63⟩, ⟨dA63, dn63, dc63⟩, ⟨rA63, rn63, rc63⟩, ⟨xA63, xn63, xc63⟩, ⟨qA63, qn63, qc63⟩⟩, rfl, ⟨o_p63, o_l63, o_o63, o_d63, o_r63, o_x63, o_q63, ma63, mb63, mc63⟩, hb63⟩
            refine ⟨_, rfl, ?_⟩
            have ep63 : b.ps.length = pn63 := own_lenI o_p63
            subst pn63
            have el63 : b.ls.length = ln63 := own_lenOf (by decide) cLimit_len o_l63
            subst ln63
            have eo63 : b.os.length = on63 := own_lenOf (by decide) cWaiting_len o_o63
            subst on63
            have ed63 : b.ds.length = dn63 := own_lenOf (by decide) cDone_len o_d63
            subst dn63
            have er63 : b.rs.length = rn63 := own_lenOf (by decide) cRecord_len o_r63
            subst rn63
            have ex63 : b.xs.length = xn63 := own_lenI o_x63
            subst xn63
            have eq63 : b.qs.length = qn63 := own_lenI o_q63
            subst qn63
            change w64.ownsRow w60.heap.size 3 1 (.slice pA63 b.ps.length pc63) b.ps.length (b.ps.flatMap cI) at o_p63
            change w64.ownsRow w60.heap.size 36 3 (.slice lA63 b.ls.length lc63) b.ls.length (b.ls.flatMap cLimit) at o_l63
            change w64.ownsRow w60.heap.size 45 5 (.slice oA63 b.os.length oc63) b.os.length (b.os.flatMap cWaiting) at o_o63
            change w64.ownsRow w60.heap.size 51 3 (.slice dA63 b.ds.length dc63) b.ds.length (b.ds.flatMap cDone) at o_d63
            change w64.ownsRow w60.heap.size 47 4 (.slice rA63 b.rs.length rc63) b.rs.length (b.rs.flatMap cRecord) at o_r63
            change w64.ownsRow w60.heap.size 3 1 (.slice xA63 b.xs.length xc63) b.xs.length (b.xs.flatMap cI) at o_x63
            change w64.ownsRow w60.heap.size 3 1 (.slice qA63 b.qs.length qc63) b.qs.length (b.qs.flatMap cI) at o_q63
            have m_p63_x63 := ma63
            have m_p63_q63 := mb63
            have m_x63_q63 := mc63
            have d_p63_q6 := own_ne_box o_p63 (lt_of_block h_q6)
            replace o_p63 := own_base (base := w.heap.size) o_p63 hB.size
            have d_l63_q6 := own_ne_box o_l63 (lt_of_block h_q6)
            replace o_l63 := own_base (base := w.heap.size) o_l63 hB.size
            have d_o63_q6 := own_ne_box o_o63 (lt_of_block h_q6)
            replace o_o63 := own_base (base := w.heap.size) o_o63 hB.size
            have d_d63_q6 := own_ne_box o_d63 (lt_of_block h_q6)
            replace o_d63 := own_base (base := w.heap.size) o_d63 hB.size
            have d_r63_q6 := own_ne_box o_r63 (lt_of_block h_q6)
            replace o_r63 := own_base (base := w.heap.size) o_r63 hB.size
            have d_x63_q6 := own_ne_box o_x63 (lt_of_block h_q6)
            replace o_x63 := own_base (base := w.heap.size) o_x63 hB.size
            have d_q63_q6 := own_ne_box o_q63 (lt_of_block h_q6)
            replace o_q63 := own_base (base := w.heap.size) o_q63 hB.size
            replace h_q2 := keep_below h_q2 hb63
            replace h_q6 := keep_below h_q6 hb63
            replace h_q11 := keep_below h_q11 hb63
            replace h_q25 := keep_below h_q25 hb63
            replace o_p9 := own_below o_p9 hb63
            replace o_l9 := own_below o_l9 hb63
            replace o_o9 := own_below o_o9 hb63
            replace o_d9 := own_below o_d9 hb63
            replace o_r9 := own_below o_r9 hb63
            replace o_x9 := own_below o_x9 hb63
            replace o_q9 := own_below o_q9 hb63
            replace o_r54 := own_below o_r54 hb63
            replace hB := hB.trans (hb63.mono hB.size)
            clear hb63
            intro a42 p42
            refine q_eff rfl rfl ?_
            refine g_storeB rfl (p42.k (p41.k s4 rfl) rfl) p42.v Try.sizeOf32 rfl rfl h_q6 rfl ?_
            intro w65 W_w65
            replace h_q2 := keep_wrote h_q2 W_w65 n_q6_q2
            replace h_q6 := W_w65.here
            replace h_q11 := keep_wrote h_q11 W_w65 n_q6_q11
            replace h_q25 := keep_wrote h_q25 W_w65 n_q6_q25
            replace o_p9 := own_wrote o_p9 W_w65 d_p9_q6
            replace o_l9 := own_wrote o_l9 W_w65 d_l9_q6
            replace o_o9 := own_wrote o_o9 W_w65 d_o9_q6
            replace o_d9 := own_wrote o_d9 W_w65 d_d9_q6
            replace o_r9 := own_wrote o_r9 W_w65 d_r9_q6
            replace o_x9 := own_wrote o_x9 W_w65 d_x9_q6
            replace o_q9 := own_wrote o_q9 W_w65 d_q9_q6
            replace o_r54 := own_wrote o_r54 W_w65 d_r54_q6
            replace o_p63 := own_wrote o_p63 W_w65 d_p63_q6
            replace o_l63 := own_wrote o_l63 W_w65 d_l63_q6
            replace o_o63 := own_wrote o_o63 W_w65 d_o63_q6
            replace o_d63 := own_wrote o_d63 W_w65 d_d63_q6
            replace o_r63 := own_wrote o_r63 W_w65 d_r63_q6
            replace o_x63 := own_wrote o_x63 W_w65 d_x63_q6
            replace o_q63 := own_wrote o_q63 W_w65 d_q63_q6
            replace hB := below_wrote hB hB.size W_w65 g_q6.le
            clear W_w65
            refine q_v p42.s rfl rfl rfl (g_assign rfl rfl ?_)
            intro a43 p43
            have s5 : a43.eval (.tmp 5) = .bool false := p43.v
            refine wpList_nil ?_
            have kc40 := (((Kps.nil a40).u p41).u p42).u p43
            replace s4 := kc40.k s4 rfl
            replace s6 := kc40.k s6 rfl
            replace s8 := kc40.k s8 rfl
            clear kc40
            refine hK62 _ _ ?_
            clear hK62
            refine wp_ret ?_
            try dsimp only [Exit.then, Exit.inBlock]
            refine ret2 p43.s Try.results33 (res_cell s4 h_q6 Try.isAgg32 Try.sizeOf32 rfl) (res_tmp s5) ?_
            have hac := acc_room (b := b) (ok := ok) (ot := ot) (oa := oa) (ob := ob) (by omega)
            rw [← hkp, ← insL_app] at hac
            have hcc : boOk (accC b ok ot oa ob) = false := by rw [hac]; exact hc61
            rw [bdAcc_no (.inr (.inr hcc))]
            exact ⟨⟨⟨pA63, b.ps.length, pc63⟩, ⟨lA63, b.ls.length, lc63⟩, ⟨oA63, b.os.length, oc63⟩, ⟨dA63, b.ds.length, dc63⟩, ⟨rA63, b.rs.length, rc63⟩, ⟨xA63, b.xs.length, xc63⟩, ⟨qA63, b.qs.length, qc63⟩⟩, rfl, ⟨o_p63, o_l63, o_o63, o_d63, o_r63, o_x63, o_q63, m_p63_x63, m_p63_q63, m_x63_q63⟩, hB⟩
          replace s81 : a40.eval (.tmp 81) = .bool false := (s81).trans (congrArg (fun b => Value.bool (!b)) hc61)
          refine c_false s81 ?_
          refine wp_skip ?_
          refine hK57 _ _ ?_
          clear hK57
          refine wp_seq_k fun K66 hK66 => ?_
          refine wp_region_lit ?_
          refine q_v p40.s rfl rfl rfl (g_loadB rfl s6 Try.isAgg32 Try.sizeOf32 rfl h_q11 ?_)
          intro a41 p41
          refine q_v p41.s rfl rfl rfl (g_move rfl (p41.k s8 rfl) ?_)
          intro a42 p42
          refine q_eff rfl rfl ?_
          refine g_storeB rfl (p42.k (p41.k s4 rfl) rfl) (p42.k p41.v rfl) Try.sizeOf32 rfl rfl h_q6 rfl ?_
          intro w67 W_w67
          replace h_q2 := keep_wrote h_q2 W_w67 n_q6_q2
          replace h_q6 := W_w67.here
          replace h_q11 := keep_wrote h_q11 W_w67 n_q6_q11
          replace h_q25 := keep_wrote h_q25 W_w67 n_q6_q25
          replace o_p9 := own_wrote o_p9 W_w67 d_p9_q6
          replace o_l9 := own_wrote o_l9 W_w67 d_l9_q6
          replace o_o9 := own_wrote o_o9 W_w67 d_o9_q6
          replace o_d9 := own_wrote o_d9 W_w67 d_d9_q6
          replace o_r9 := own_wrote o_r9 W_w67 d_r9_q6
          replace o_x9 := own_wrote o_x9 W_w67 d_x9_q6
          replace o_q9 := own_wrote o_q9 W_w67 d_q9_q6
          replace o_r54 := own_wrote o_r54 W_w67 d_r54_q6
          replace hB := below_wrote hB hB.size W_w67 g_q6.le
          clear W_w67
          refine q_v p42.s rfl rfl rfl (g_assign rfl p42.v ?_)
          intro a43 p43
          refine wpList_nil ?_
          replace s4 := p43.k (p42.k (p41.k s4 rfl) rfl) rfl
          replace s5 := p43.v
          refine hK66 _ _ ?_
          clear hK66
          refine wp_ret ?_
          try dsimp only [Exit.then, Exit.inBlock]
          refine ret2 p43.s Try.results33 (res_cell s4 h_q6 Try.isAgg32 Try.sizeOf32 rfl) (res_tmp s5) ?_
          have hac := acc_room (b := b) (ok := ok) (ot := ot) (oa := oa) (ob := ob) (by omega)
          rw [← hkp, ← insL_app] at hac
          have hcc : boOk (accC b ok ot oa ob) = true := by rw [hac]; exact hc61
          rw [bdAcc_yes h1 h2 hcc, hac, decide_eq_true (by omega)]
          exact ⟨⟨⟨pA9, b.ps.length, pc9⟩, ⟨lA9, b.ls.length, lc9⟩, ⟨A_r54, k + 1 + (b.os.length - k), c_r54⟩, ⟨dA9, b.ds.length, dc9⟩, ⟨rA9, b.rs.length, rc9⟩, ⟨xA9, b.xs.length, xc9⟩, ⟨qA9, b.qs.length, qc9⟩⟩, rfl, ⟨o_p9, o_l9, o_r54, o_d9, o_r9, o_x9, o_q9, m_p9_x9, m_p9_q9, m_x9_q9⟩, hB⟩
    refine wp_drawn (n := 86) [] [] [] (fun k_ v_ _wx => match k_ with | 0 => v_ = .int .i64 ((k : Nat) : Int) | 1 => v_ = .bool false | 2 => v_ = .bool false | 14 => v_ = .bool false | _ => True) (by kernel_rfl) (by kernel_rfl) (by kernel_rfl) (by kernel_rfl) hs.size ?_ ?_ ?_
    · intro i v wa wb hb hr
      rcases i with _ | _ | _ | _ | _ | _ | _ | _ | _ | _ | _ | _ | _ | _ | _ | i
      · exact hr
      · exact hr
      · exact hr
      · trivial
      · trivial
      · trivial
      · trivial
      · trivial
      · trivial
      · trivial
      · trivial
      · trivial
      · trivial
      · trivial
      · exact hr
      · trivial
    · refine d_step rfl rfl ?_ (d_step rfl rfl ?_ (d_step rfl rfl ?_ (d_skip 2 true 39 rfl rfl rfl (fun v w h => Or.inl h) (fun w => trivial) (d_skip 2 true 39 rfl rfl rfl (fun v w h => Or.inl h) (fun w => trivial) (d_skip 2 true 39 rfl rfl rfl (fun v w h => Or.inl h) (fun w => trivial) (d_skip 2 true 39 rfl rfl rfl (fun v w h => Or.inl h) (fun w => trivial) (d_skip 2 true 39 rfl rfl rfl (fun v w h => Or.inl h) (fun w => trivial) (d_skip 2 true 39 rfl rfl rfl (fun v w h => Or.inl h) (fun w => trivial) (d_skip 2 true 39 rfl rfl rfl (fun v w h => Or.inl h) (fun w => trivial) (d_skip 2 true 39 rfl rfl rfl (fun v w h => Or.inl h) (fun w => trivial) (d_skip 2 true 39 rfl rfl rfl (fun v w h => Or.inl h) (fun w => trivial) (d_skip 2 true 39 rfl rfl rfl (fun v w h => Or.inl h) (fun w => trivial) (d_skip 2 true 39 rfl rfl rfl (fun v w h => Or.inl h) (fun w => trivial) (d_step rfl rfl ?_ (d_nil)))))))))))))))
      · intro xv_ wx ρ hρ hwx hd K hK
        have e9 : ρ (.tmp 9) = .int .i64 ((k : Nat) : Int) := (hρ.inn 9 rfl).trans s9
        refine g_move rfl e9 ?_
        exact hK _ _ (Below.refl _ _) rfl
      · intro xv_ wx ρ hρ hwx hd K hK
        obtain r0 : xv_ 0 = .int .i64 ((k : Nat) : Int) := hd 0 rfl
        have e37 : ρ (.tmp 37) = .int .i64 ((k : Nat) : Int) := (hρ.out 0 37 rfl (by rw [hs.size]; decide) rfl).trans r0
        refine g_gtr rfl e37 ((hρ.cst _)) ?_
        exact hK _ _ (Below.refl _ _) (congrArg Value.bool (decide_eq_false hk0))
      · intro xv_ wx ρ hρ hwx hd K hK
        obtain r1 : xv_ 1 = .bool false := hd 1 rfl
        have e38 : ρ (.tmp 38) = .bool false := (hρ.out 1 38 rfl (by rw [hs.size]; decide) rfl).trans r1
        refine g_move rfl e38 ?_
        exact hK _ _ (Below.refl _ _) rfl
      · intro xv_ wx ρ hρ hwx hd K hK
        obtain r2 : xv_ 2 = .bool false := hd 2 rfl
        have e39 : ρ (.tmp 39) = .bool false := (hρ.out 2 39 rfl (by rw [hs.size]; decide) rfl).trans r2
        refine g_pick_f rfl e39 ((hρ.cst _)) ?_
        exact hK _ _ (Below.refl _ _) rfl
    · intro x0_ w68 hb_w68 hr0
      obtain r0 : x0_ 0 = .int .i64 ((k : Nat) : Int) := hr0 0 (by decide) rfl rfl
      obtain r1 : x0_ 1 = .bool false := hr0 1 (by decide) rfl rfl
      obtain r2 : x0_ 2 = .bool false := hr0 2 (by decide) rfl rfl
      obtain r14 : x0_ 14 = .bool false := hr0 14 (by decide) rfl rfl
      clear hr0
      replace h_q2 := keep_below h_q2 hb_w68
      replace h_q6 := keep_below h_q6 hb_w68
      replace h_q11 := keep_below h_q11 hb_w68
      replace h_q25 := keep_below h_q25 hb_w68
      replace o_p9 := own_below o_p9 hb_w68
      replace o_l9 := own_below o_l9 hb_w68
      replace o_o9 := own_below o_o9 hb_w68
      replace o_d9 := own_below o_d9 hb_w68
      replace o_r9 := own_below o_r9 hb_w68
      replace o_x9 := own_below o_x9 hb_w68
      replace o_q9 := own_below o_q9 hb_w68
      replace hB := hB.trans (hb_w68.mono hB.size)
      clear hb_w68
      intro xv_ a36 hρ hsz hdf qx_ ql_ qk_ qlk_
      replace s2 : a36.eval (.tmp 2) = .pointer (some ⟨q2, 0, none⟩) := (hρ.inn 2 rfl).trans s2
      replace s3 : a36.eval (.tmp 3) = .pointer (some ⟨q4, 0, none⟩) := (hρ.inn 3 rfl).trans s3
      replace s4 : a36.eval (.tmp 4) = .pointer (some ⟨q6, 0, none⟩) := (hρ.inn 4 rfl).trans s4
      replace s5 : a36.eval (.tmp 5) = .bool false := (hρ.inn 5 rfl).trans s5
      replace s6 : a36.eval (.tmp 6) = .pointer (some ⟨q11, 0, none⟩) := (hρ.inn 6 rfl).trans s6
      replace s7 : a36.eval (.tmp 7) = .pointer (some ⟨q25, 0, none⟩) := (hρ.inn 7 rfl).trans s7
      replace s8 : a36.eval (.tmp 8) = .bool true := (hρ.inn 8 rfl).trans s8
      replace s9 : a36.eval (.tmp 9) = .int .i64 ((k : Nat) : Int) := (hρ.inn 9 rfl).trans s9
      have s51 : a36.eval (.tmp 51) = .bool false := (hρ.out 14 51 rfl (by rw [hs.size]; decide)).trans ((qx_ 14 (by decide) rfl rfl).trans r14)
      replace hs : St 86 a36 := ⟨hsz.trans hs.size, hdf.trans hs.nodef⟩
      clear hρ hsz hdf qx_ ql_ qk_ qlk_
      refine hK39 _ _ ?_
      clear hK39
      refine c_false s51 ?_
      refine wp_exit ?_
      refine hK34 _ _ ?_
      clear hK34
      have hkp : k = accPos b.os ot := accN_stop (.inl (by omega)) hp
      have hkl : k ≤ b.os.length := hk
      obtain ⟨A73, hA_v74⟩ : ∃ x_, x_ = tailA 5 oA oc k := ⟨_, rfl⟩
      have T_v74 : Tail 5 oA A73 b.os.length oc k := hA_v74 ▸ tailA_of 5 oA b.os.length oc k hnc_o
      refine J.wp_drawn (J := fun w_ => w_.heap[q2]? = some (.cells #[.int .i64 b.clk, .slice pA b.ps.length pc, .bool b.safe, .slice lA b.ls.length lc, .slice oA b.os.length oc, .slice dA b.ds.length dc, .int .i64 b.room, .slice rA b.rs.length rc, .slice xA b.xs.length xc, .int .i64 b.made, .int .i64 b.taken, .slice qA b.qs.length qc] 32 (0, 0))) (n := 86) [9, 10, 11, 12] [8, 13, 14, 15] [] (fun k_ v_ wx => match k_ with | 0 => ∃ q69, v_ = .slice (some ⟨q69, 0, none⟩) 0 0 ∧ w68.heap.size ≤ q69 ∧ wx.heap[q69]? = some (.cells #[] 45 (0, 0)) | 1 => v_ = .pointer (some ⟨q2, 4, none⟩) | 2 => v_ = .slice oA b.os.length oc | 3 => v_ = .int .i64 ((k : Nat) : Int) | 4 => v_ = .slice oA k oc | 5 => ∃ (A_r71 : Option Addr) (c_r71 : Nat), v_ = .slice A_r71 k c_r71 ∧ ((wx).ownsRow w68.heap.size 45 5 (.slice A_r71 k c_r71) k ((b.os.take k).flatMap cWaiting)) ∧ (k = 0 → c_r71 = 0) | 6 => v_ = .agg #[.int .i64 b.taken, .int .i64 ok, .int .i64 ot, .int .i64 oa, .int .i64 ob] | 7 => ∃ q72, v_ = .slice (some ⟨q72, 0, none⟩) 1 1 ∧ w68.heap.size ≤ q72 ∧ wx.heap[q72]? = some (.cells #[.int .i64 b.taken, .int .i64 ok, .int .i64 ot, .int .i64 oa, .int .i64 ob] 45 (0, 0)) | 9 => v_ = .pointer (some ⟨q2, 4, none⟩) | 10 => v_ = .slice oA b.os.length oc | 11 => v_ = .int .i64 ((k : Nat) : Int) | 12 => v_ = .slice A73 (b.os.length - k) (oc - k) | _ => True) (by kernel_rfl) (by kernel_rfl) (by kernel_rfl) (by kernel_rfl) hs.size ?_ ?_ (fun w_ hb_ => keep_below h_q2 hb_) ?_
      · intro i v wa wb hb hr
        rcases i with _ | _ | _ | _ | _ | _ | _ | _ | _ | _ | _ | _ | _ | _ | _ | _ | i
        · obtain ⟨q69, hr, hg, hh⟩ := hr; exact ⟨q69, hr, hg, keep_below hh hb⟩
        · exact hr
        · exact hr
        · exact hr
        · exact hr
        · obtain ⟨A_r71, c_r71, hr, o_r71, z_r71⟩ := hr; exact ⟨A_r71, c_r71, hr, own_below o_r71 hb, z_r71⟩
        · exact hr
        · obtain ⟨q72, hr, hg, hh⟩ := hr; exact ⟨q72, hr, hg, keep_below hh hb⟩
        · trivial
        · exact hr
        · exact hr
        · exact hr
        · exact hr
        · trivial
        · trivial
        · trivial
        · trivial
      · refine J.d_step rfl rfl ?_ (J.d_step rfl rfl ?_ (J.d_step rfl rfl ?_ (J.d_step rfl rfl ?_ (J.d_step rfl rfl ?_ (J.d_step rfl rfl ?_ (J.d_step rfl rfl ?_ (J.d_step rfl rfl ?_ (J.d_chain rfl (J.d_late rfl rfl ?_ (J.d_late rfl rfl ?_ (J.d_late rfl rfl ?_ (J.d_late rfl rfl ?_ (J.d_chain rfl (J.d_chain rfl (J.d_chain rfl (J.d_nil))))))))))))))))
        · intro xv_ wx ρ hρ hwx hd K hK
          refine g_bslice0 rfl Try.underlying26 Try.sizeOf45 ?_
          intro q w' N
          exact hK _ _ N.below ⟨q, rfl, Nat.le_trans hwx.size N.lo, N.here⟩
        · intro xv_ wx ρ hρ hwx hd K hK
          have e2 : ρ (.tmp 2) = .pointer (some ⟨q2, 0, none⟩) := (hρ.inn 2 rfl).trans s2
          refine g_field (r := 4) rfl e2 Try.underlying32 rfl (fun w => Try.sizeOf26 w) rfl rfl ?_
          exact hK _ _ (Below.refl _ _) rfl
        · intro xv_ wx ρ hρ hwx hd K hK
          obtain r1 : xv_ 1 = .pointer (some ⟨q2, 4, none⟩) := hd 1 rfl
          have e55 : ρ (.tmp 55) = .pointer (some ⟨q2, 4, none⟩) := (hρ.out 1 55 rfl (by rw [hs.size]; decide) rfl).trans r1
          have h_q2 := keep_below h_q2 hwx
          refine g_load rfl e55 Try.isAgg26 (box_cell h_q2 rfl) ?_
          exact hK _ _ (Below.refl _ _) rfl
        · intro xv_ wx ρ hρ hwx hd K hK
          have e9 : ρ (.tmp 9) = .int .i64 ((k : Nat) : Int) := (hρ.inn 9 rfl).trans s9
          refine g_move rfl e9 ?_
          exact hK _ _ (Below.refl _ _) rfl
        · intro xv_ wx ρ hρ hwx hd K hK
          obtain r2 : xv_ 2 = .slice oA b.os.length oc := hd 2 rfl
          have e56 : ρ (.tmp 56) = .slice oA b.os.length oc := (hρ.out 2 56 rfl (by rw [hs.size]; decide) rfl).trans r2
          obtain r3 : xv_ 3 = .int .i64 ((k : Nat) : Int) := hd 3 rfl
          have e57 : ρ (.tmp 57) = .int .i64 ((k : Nat) : Int) := (hρ.out 3 57 rfl (by rw [hs.size]; decide) rfl).trans r3
          refine g_head rfl e56 e57 Try.underlying26 (fun w => Try.sizeOf45 w) (by have := hnc_o; omega) ?_
          exact hK _ _ (Below.refl _ _) rfl
        · intro xv_ wx ρ hρ hwx hd K hK
          obtain ⟨q69, r0, g0_q69, h_q69⟩ : ∃ q69, xv_ 0 = .slice (some ⟨q69, 0, none⟩) 0 0 ∧ w68.heap.size ≤ q69 ∧ wx.heap[q69]? = some (.cells #[] 45 (0, 0)) := hd 0 rfl
          have e54 : ρ (.tmp 54) = .slice (some ⟨q69, 0, none⟩) 0 0 := (hρ.out 0 54 rfl (by rw [hs.size]; decide) rfl).trans r0
          obtain r4 : xv_ 4 = .slice oA k oc := hd 4 rfl
          have e58 : ρ (.tmp 58) = .slice oA k oc := (hρ.out 4 58 rfl (by rw [hs.size]; decide) rfl).trans r4
          refine g_append_fresh0 (news := (b.os.take k).flatMap cWaiting) w68.heap.size (.agg #[.int .i64 0, .int .i64 0, .int .i64 0, .int .i64 0, .int .i64 0]) 5 40 rfl e54 e58 Try.underlying26 infoWaiting rfl (by decide) g0_q69 h_q69 (fun h => by have hz := hnn_o h; omega) ((Rd.take cWaiting_len (hr_o.below hB) rfl (by omega)).below hwx) (flatWaiting_one _) (by omega) hwx.size (by decide) ?_
          intro A c w' ho hz hb
          exact hK _ _ hb ⟨A, c, rfl, ho, hz⟩
        · intro xv_ wx ρ hρ hwx hd K hK
          have e7 : ρ (.tmp 7) = .pointer (some ⟨q25, 0, none⟩) := (hρ.inn 7 rfl).trans s7
          have h_q25 := keep_below h_q25 hwx
          refine g_loadB rfl e7 Try.isAgg45 Try.sizeOf45 rfl h_q25 ?_
          exact hK _ _ (Below.refl _ _) rfl
        · intro xv_ wx ρ hρ hwx hd K hK
          obtain r6 : xv_ 6 = .agg #[.int .i64 b.taken, .int .i64 ok, .int .i64 ot, .int .i64 oa, .int .i64 ob] := hd 6 rfl
          have e60 : ρ (.tmp 60) = .agg #[.int .i64 b.taken, .int .i64 ok, .int .i64 ot, .int .i64 oa, .int .i64 ob] := (hρ.out 6 60 rfl (by rw [hs.size]; decide) rfl).trans r6
          refine g_bslice1 (cs := #[.int .i64 b.taken, .int .i64 ok, .int .i64 ot, .int .i64 oa, .int .i64 ob]) rfl Try.underlying26 Try.sizeOf45 Try.zeroValue45 e60 (by kernel_rfl) rfl (by decide) ?_
          intro q w' N
          exact hK _ _ N.below ⟨q, rfl, Nat.le_trans hwx.size N.lo, N.here⟩
        · intro xv_ wx ρ hρ hwx hd
          have e2 : ρ (.tmp 2) = .pointer (some ⟨q2, 0, none⟩) := (hρ.inn 2 rfl).trans s2
          exact ⟨_, fun w' hj_ => l_fieldAddr (r := 4) rfl e2 Try.underlying32 rfl (fun w => Try.sizeOf26 w) rfl rfl, rfl⟩
        · intro xv_ wx ρ hρ hwx hd
          obtain r9 : xv_ 9 = .pointer (some ⟨q2, 4, none⟩) := hd 9 rfl rfl
          have e63 : ρ (.tmp 63) = .pointer (some ⟨q2, 4, none⟩) := (hρ.out 9 63 rfl (by rw [hs.size]; decide) rfl).trans r9
          exact ⟨_, fun w' hj_ => l_load rfl e63 Try.isAgg26 (box_cell hj_ rfl), rfl⟩
        · intro xv_ wx ρ hρ hwx hd
          have e9 : ρ (.tmp 9) = .int .i64 ((k : Nat) : Int) := (hρ.inn 9 rfl).trans s9
          exact ⟨_, fun w' hj_ => l_move rfl e9, rfl⟩
        · intro xv_ wx ρ hρ hwx hd
          obtain r10 : xv_ 10 = .slice oA b.os.length oc := hd 10 rfl rfl
          have e64 : ρ (.tmp 64) = .slice oA b.os.length oc := (hρ.out 10 64 rfl (by rw [hs.size]; decide) rfl).trans r10
          obtain r11 : xv_ 11 = .int .i64 ((k : Nat) : Int) := hd 11 rfl rfl
          have e65 : ρ (.tmp 65) = .int .i64 ((k : Nat) : Int) := (hρ.out 11 65 rfl (by rw [hs.size]; decide) rfl).trans r11
          exact ⟨_, fun w' hj_ => l_tailD rfl e64 e65 Try.underlying26 (fun w => Try.sizeOf45 w) (by omega) rfl rfl hA_v74, rfl⟩
      · intro x0_ w75 hb_w75 hr0
        obtain ⟨q69, r0, g0_q69, h_q69⟩ : ∃ q69, x0_ 0 = .slice (some ⟨q69, 0, none⟩) 0 0 ∧ w68.heap.size ≤ q69 ∧ w75.heap[q69]? = some (.cells #[] 45 (0, 0)) := hr0 0 (by decide) rfl rfl
        obtain r1 : x0_ 1 = .pointer (some ⟨q2, 4, none⟩) := hr0 1 (by decide) rfl rfl
        obtain r2 : x0_ 2 = .slice oA b.os.length oc := hr0 2 (by decide) rfl rfl
        obtain r3 : x0_ 3 = .int .i64 ((k : Nat) : Int) := hr0 3 (by decide) rfl rfl
        obtain r4 : x0_ 4 = .slice oA k oc := hr0 4 (by decide) rfl rfl
        obtain ⟨A_r71, c_r71, r5, o_r71, z_r71⟩ : ∃ (A_r71 : Option Addr) (c_r71 : Nat), x0_ 5 = .slice A_r71 k c_r71 ∧ ((w75).ownsRow w68.heap.size 45 5 (.slice A_r71 k c_r71) k ((b.os.take k).flatMap cWaiting)) ∧ (k = 0 → c_r71 = 0) := hr0 5 (by decide) rfl rfl
        obtain r6 : x0_ 6 = .agg #[.int .i64 b.taken, .int .i64 ok, .int .i64 ot, .int .i64 oa, .int .i64 ob] := hr0 6 (by decide) rfl rfl
        obtain ⟨q72, r7, g0_q72, h_q72⟩ : ∃ q72, x0_ 7 = .slice (some ⟨q72, 0, none⟩) 1 1 ∧ w68.heap.size ≤ q72 ∧ w75.heap[q72]? = some (.cells #[.int .i64 b.taken, .int .i64 ok, .int .i64 ot, .int .i64 oa, .int .i64 ob] 45 (0, 0)) := hr0 7 (by decide) rfl rfl
        clear hr0
        have d_r71_q2 := own_ne_box o_r71 (lt_of_block h_q2)
        have d_r71_q6 := own_ne_box o_r71 (lt_of_block h_q6)
        have d_r71_q11 := own_ne_box o_r71 (lt_of_block h_q11)
        have d_r71_q25 := own_ne_box o_r71 (lt_of_block h_q25)
        have m_p9_r71 := own_ne_row o_p9 o_r71 (Nat.le_refl _)
        have m_l9_r71 := own_ne_row o_l9 o_r71 (Nat.le_refl _)
        have m_o9_r71 := own_ne_row o_o9 o_r71 (Nat.le_refl _)
        have m_d9_r71 := own_ne_row o_d9 o_r71 (Nat.le_refl _)
        have m_r9_r71 := own_ne_row o_r9 o_r71 (Nat.le_refl _)
        have m_x9_r71 := own_ne_row o_x9 o_r71 (Nat.le_refl _)
        have m_q9_r71 := own_ne_row o_q9 o_r71 (Nat.le_refl _)
        have g_r71 : ∀ b, (A_r71 : Option Addr).map (·.block) = some b → w.heap.size ≤ b := fun b h => Nat.le_trans hB.size (own_row o_r71 b h).1
        replace o_r71 := own_base (base := w.heap.size) o_r71 hB.size
        clear g0_q72
        replace h_q2 := keep_below h_q2 hb_w75
        replace h_q6 := keep_below h_q6 hb_w75
        replace h_q11 := keep_below h_q11 hb_w75
        replace h_q25 := keep_below h_q25 hb_w75
        replace o_p9 := own_below o_p9 hb_w75
        replace o_l9 := own_below o_l9 hb_w75
        replace o_o9 := own_below o_o9 hb_w75
        replace o_d9 := own_below o_d9 hb_w75
        replace o_r9 := own_below o_r9 hb_w75
        replace o_x9 := own_below o_x9 hb_w75
        replace o_q9 := own_below o_q9 hb_w75
        replace hB := hB.trans (hb_w75.mono hB.size)
        clear hb_w75
        intro op_ ho_ xv_ ρ hρ qx_ ql_ qk_
        obtain rfl := Option.some.inj ho_
        clear ho_
        have e59 : ρ (.tmp 59) = .slice A_r71 k c_r71 := (hρ.out 5 59 rfl (by rw [hs.size]; decide) rfl).trans ((qx_ 5 (by decide) rfl rfl).trans r5)
        have e61 : ρ (.tmp 61) = .slice (some ⟨q72, 0, none⟩) 1 1 := (hρ.out 7 61 rfl (by rw [hs.size]; decide) rfl).trans ((qx_ 7 (by decide) rfl rfl).trans r7)
        refine g_append (n' := k + 1) (ys := ((b.os.take k) ++ [(⟨b.taken, ok, ot, oa, ob⟩ : EWaiting)]).flatMap cWaiting) w.heap.size (.agg #[.int .i64 0, .int .i64 0, .int .i64 0, .int .i64 0, .int .i64 0]) 5 40 rfl e59 e61 Try.underlying26 infoWaiting rfl (by decide) o_r71 (fun h => by cases h) (rd_box (xs := ([(⟨b.taken, ok, ot, oa, ob⟩ : EWaiting)]).flatMap cWaiting) h_q72 rfl rfl) (flatWaiting_one _) (by omega) hB.size (by decide) (by omega) (by first | rfl | simp [List.flatMap_append] | (simp [List.flatMap_append, cWaiting]; done)) ?_
        intro A_r76 c_r76 w77 P_r76
        have d_r76_q2 := P_r76.ne d_r71_q2 (lt_of_block h_q2)
        have d_r76_q6 := P_r76.ne d_r71_q6 (lt_of_block h_q6)
        have d_r76_q11 := P_r76.ne d_r71_q11 (lt_of_block h_q11)
        have d_r76_q25 := P_r76.ne d_r71_q25 (lt_of_block h_q25)
        have m_p9_r76 := P_r76.row m_p9_r71 o_p9
        have m_l9_r76 := P_r76.row m_l9_r71 o_l9
        have m_o9_r76 := P_r76.row m_o9_r71 o_o9
        have m_d9_r76 := P_r76.row m_d9_r71 o_d9
        have m_r9_r76 := P_r76.row m_r9_r71 o_r9
        have m_x9_r76 := P_r76.row m_x9_r71 o_x9
        have m_q9_r76 := P_r76.row m_q9_r71 o_q9
        have g_r76 := P_r76.ge g_r71 hB.size
        replace h_q2 := keep_grown h_q2 P_r76.grown d_r71_q2
        replace h_q6 := keep_grown h_q6 P_r76.grown d_r71_q6
        replace h_q11 := keep_grown h_q11 P_r76.grown d_r71_q11
        replace h_q25 := keep_grown h_q25 P_r76.grown d_r71_q25
        replace o_p9 := own_grown o_p9 P_r76.grown m_p9_r71
        replace o_l9 := own_grown o_l9 P_r76.grown m_l9_r71
        replace o_o9 := own_grown o_o9 P_r76.grown m_o9_r71
        replace o_d9 := own_grown o_d9 P_r76.grown m_d9_r71
        replace o_r9 := own_grown o_r9 P_r76.grown m_r9_r71
        replace o_x9 := own_grown o_x9 P_r76.grown m_x9_r71
        replace o_q9 := own_grown o_q9 P_r76.grown m_q9_r71
        replace hB := below_grown hB hB.size P_r76.grown g_r71
        have o_r76 := P_r76.own
        clear P_r76
        refine ⟨h_q2, ?_⟩
        clear hρ qx_ ql_ qk_
        clear e59 e61
        intro op_ ho_ xv_ ρ hρ qx_ ql_ qk_
        obtain rfl := Option.some.inj ho_
        clear ho_
        have e62 : ρ (.tmp 62) = .slice A_r76 (k + 1) c_r76 := (hρ.out 8 62 rfl (by rw [hs.size]; decide) rfl).trans (qk_ (8, _) (by simp))
        have e66 : ρ (.tmp 66) = .slice A73 (b.os.length - k) (oc - k) := (hρ.out 12 66 rfl (by rw [hs.size]; decide) rfl).trans (ql_ 12 rfl rfl)
        refine g_append (n' := k + 1 + (b.os.length - k)) (ys := (((b.os.take k) ++ [(⟨b.taken, ok, ot, oa, ob⟩ : EWaiting)]) ++ (b.os.drop k)).flatMap cWaiting) w.heap.size (.agg #[.int .i64 0, .int .i64 0, .int .i64 0, .int .i64 0, .int .i64 0]) 5 40 rfl e62 e66 Try.underlying26 infoWaiting rfl (by decide) o_r76 (fun h => by have hz := hnn_o (T_v74.nil h); omega) (T_v74.rd cWaiting_len rfl (by omega) (hr_o.below hB)) (flatWaiting_one _) (by omega) hB.size (by decide) (by omega) (by first | rfl | simp [List.flatMap_append] | (simp [List.flatMap_append, cWaiting]; done)) ?_
        intro A_r78 c_r78 w79 P_r78
        have d_r78_q6 := P_r78.ne d_r76_q6 (lt_of_block h_q6)
        have d_r78_q11 := P_r78.ne d_r76_q11 (lt_of_block h_q11)
        replace h_q2 := keep_grown h_q2 P_r78.grown d_r76_q2
        replace h_q6 := keep_grown h_q6 P_r78.grown d_r76_q6
        replace h_q11 := keep_grown h_q11 P_r78.grown d_r76_q11
        replace h_q25 := keep_grown h_q25 P_r78.grown d_r76_q25
        replace o_p9 := own_grown o_p9 P_r78.grown m_p9_r76
        replace o_l9 := own_grown o_l9 P_r78.grown m_l9_r76
        replace o_o9 := own_grown o_o9 P_r78.grown m_o9_r76
        replace o_d9 := own_grown o_d9 P_r78.grown m_d9_r76
        replace o_r9 := own_grown o_r9 P_r78.grown m_r9_r76
        replace o_x9 := own_grown o_x9 P_r78.grown m_x9_r76
        replace o_q9 := own_grown o_q9 P_r78.grown m_q9_r76
        replace hB := below_grown hB hB.size P_r78.grown g_r76
        have o_r78 := P_r78.own
        clear P_r78
        refine ⟨h_q2, ?_⟩
        clear hρ qx_ ql_ qk_
        clear e62 e66
        intro op_ ho_ xv_ ρ hρ qx_ ql_ qk_
        obtain rfl := Option.some.inj ho_
        clear ho_
        have e6 : ρ (.tmp 6) = .pointer (some ⟨q11, 0, none⟩) := (hρ.inn 6 rfl).trans s6
        refine g_field (r := 4) rfl e6 Try.underlying32 rfl (fun w => Try.sizeOf26 w) rfl rfl ?_
        refine ⟨h_q2, ?_⟩
        clear hρ qx_ ql_ qk_
        clear e6
        intro op_ ho_ xv_ ρ hρ qx_ ql_ qk_
        obtain rfl := Option.some.inj ho_
        clear ho_
        have e68 : ρ (.tmp 68) = .pointer (some ⟨q11, 4, none⟩) := (hρ.out 14 68 rfl (by rw [hs.size]; decide) rfl).trans (qk_ (14, _) (by simp))
        have e67 : ρ (.tmp 67) = .slice A_r78 (k + 1 + (b.os.length - k)) c_r78 := (hρ.out 13 67 rfl (by rw [hs.size]; decide) rfl).trans (qk_ (13, _) (by simp))
        refine g_store (cs' := #[.int .i64 b.clk, .slice pA9 b.ps.length pc9, .bool b.safe, .slice lA9 b.ls.length lc9, .slice A_r78 (k + 1 + (b.os.length - k)) c_r78, .slice dA9 b.ds.length dc9, .int .i64 b.room, .slice rA9 b.rs.length rc9, .slice xA9 b.xs.length xc9, .int .i64 b.made, .int .i64 (b.taken + 1), .slice qA9 b.qs.length qc9]) rfl e68 e67 Try.sizeOf26 rfl h_q11 (Nat.le_of_ble_eq_true rfl) rfl ?_
        intro w80 W_w80
        replace h_q2 := keep_wrote h_q2 W_w80 n_q11_q2
        replace h_q6 := keep_wrote h_q6 W_w80 n_q11_q6
        replace h_q11 := W_w80.here
        replace h_q25 := keep_wrote h_q25 W_w80 n_q11_q25
        replace o_p9 := own_wrote o_p9 W_w80 d_p9_q11
        replace o_l9 := own_wrote o_l9 W_w80 d_l9_q11
        replace o_o9 := own_wrote o_o9 W_w80 d_o9_q11
        replace o_d9 := own_wrote o_d9 W_w80 d_d9_q11
        replace o_r9 := own_wrote o_r9 W_w80 d_r9_q11
        replace o_x9 := own_wrote o_x9 W_w80 d_x9_q11
        replace o_q9 := own_wrote o_q9 W_w80 d_q9_q11
        replace o_r78 := own_wrote o_r78 W_w80 d_r78_q11
        replace hB := below_wrote hB hB.size W_w80 g_q11.le
        clear W_w80
        refine ⟨h_q2, ?_⟩
        clear e67 e68
        clear hρ qx_ ql_ qk_
        intro xv_ a37 hρ hsz hdf qx_ ql_ qk_ qlk_
        replace s2 : a37.eval (.tmp 2) = .pointer (some ⟨q2, 0, none⟩) := (hρ.inn 2 rfl).trans s2
        replace s4 : a37.eval (.tmp 4) = .pointer (some ⟨q6, 0, none⟩) := (hρ.inn 4 rfl).trans s4
        replace s5 : a37.eval (.tmp 5) = .bool false := (hρ.inn 5 rfl).trans s5
        replace s6 : a37.eval (.tmp 6) = .pointer (some ⟨q11, 0, none⟩) := (hρ.inn 6 rfl).trans s6
        replace s7 : a37.eval (.tmp 7) = .pointer (some ⟨q25, 0, none⟩) := (hρ.inn 7 rfl).trans s7
        replace s8 : a37.eval (.tmp 8) = .bool true := (hρ.inn 8 rfl).trans s8
        replace hs : St 86 a37 := ⟨hsz.trans hs.size, hdf.trans hs.nodef⟩
        clear hρ hsz hdf qx_ ql_ qk_ qlk_
        refine hK31 _ _ ?_
        clear hK31
        refine wp_seq_k fun K81 hK81 => ?_
        refine wp_seq_k fun K82 hK82 => ?_
        refine wp_region_lit ?_
        refine q_v hs rfl rfl rfl (g_loadB rfl s6 Try.isAgg32 Try.sizeOf32 rfl h_q11 ?_)
        intro a38 p38
        refine q_v p38.s rfl rfl rfl ?_
        refine g_call rfl rfl Try.call23 (arr1 p38.v) ?_
        refine (sBoardOk_any (S := (⟨⟨pA9, b.ps.length, pc9⟩, ⟨lA9, b.ls.length, lc9⟩, ⟨A_r78, k + 1 + (b.os.length - k), c_r78⟩, ⟨dA9, b.ds.length, dc9⟩, ⟨rA9, b.rs.length, rc9⟩, ⟨xA9, b.xs.length, xc9⟩, ⟨qA9, b.qs.length, qc9⟩⟩ : BSl)) (b := (⟨b.clk, b.ps, b.safe, b.ls, ((b.os.take k) ++ [(⟨b.taken, ok, ot, oa, ob⟩ : EWaiting)]) ++ (b.os.drop k), b.ds, b.room, b.rs, b.xs, b.made, b.taken + 1, b.qs⟩ : EBoard)) _ ⟨⟨(Rd.of_own o_p9), rfl, (own_nil o_p9), (own_cap o_p9).1⟩, ⟨(Rd.of_own o_l9), rfl, (own_nil o_l9), (own_cap o_l9).1⟩, ⟨(Rd.of_own o_r78), (by simp only [List.length_append, List.length_cons, List.length_nil, List.length_drop, List.length_take] <;> omega), (own_nil o_r78), (own_cap o_r78).1⟩, ⟨(Rd.of_own o_d9), rfl, (own_nil o_d9), (own_cap o_d9).1⟩, ⟨(Rd.of_own o_r9), rfl, (own_nil o_r9), (own_cap o_r9).1⟩, ⟨(Rd.of_own o_x9), rfl, (own_nil o_x9), (own_cap o_x9).1⟩, ⟨(Rd.of_own o_q9), rfl, (own_nil o_q9), (own_cap o_q9).1⟩⟩ ⟨leq_len (n := b.ps.length) rfl (by omega), leq_len (n := b.ls.length) rfl (by omega), leq_len (n := k + 1 + (b.os.length - k)) (by simp only [List.length_append, List.length_cons, List.length_nil, List.length_drop, List.length_take] <;> omega) (by omega), leq_len (n := b.ds.length) rfl (by omega), leq_len (n := b.rs.length) rfl (by omega), leq_len (n := b.xs.length) rfl (by omega), leq_len (n := b.qs.length) rfl (by omega), hW.tx⟩).mono ?_
        rintro e w84 ⟨rfl, hb83⟩
        refine ⟨_, rfl, ?_⟩
        replace h_q2 := keep_below h_q2 hb83
        replace h_q6 := keep_below h_q6 hb83
        replace h_q11 := keep_below h_q11 hb83
        replace h_q25 := keep_below h_q25 hb83
        replace o_p9 := own_below o_p9 hb83
        replace o_l9 := own_below o_l9 hb83
        replace o_o9 := own_below o_o9 hb83
        replace o_d9 := own_below o_d9 hb83
        replace o_r9 := own_below o_r9 hb83
        replace o_x9 := own_below o_x9 hb83
        replace o_q9 := own_below o_q9 hb83
        replace o_r78 := own_below o_r78 hb83
        replace hB := hB.trans (hb83.mono hB.size)
        clear hb83
        intro a39 p39
        refine q_v p39.s rfl rfl rfl (g_not rfl p39.v ?_)
        intro a40 p40
        refine wpList_nil ?_
        have kc37 := (((Kps.nil a37).u p38).u p39).u p40
        replace s2 := kc37.k s2 rfl
        replace s4 := kc37.k s4 rfl
        replace s5 := kc37.k s5 rfl
        replace s6 := kc37.k s6 rfl
        replace s8 := kc37.k s8 rfl
        replace s81 := p40.v
        clear kc37
        refine hK82 _ _ ?_
        clear hK82
        cases hc85 : boOk (⟨b.clk, b.ps, b.safe, b.ls, ((b.os.take k) ++ [(⟨b.taken, ok, ot, oa, ob⟩ : EWaiting)]) ++ (b.os.drop k), b.ds, b.room, b.rs, b.xs, b.made, b.taken + 1, b.qs⟩ : EBoard)
        · replace s81 : a40.eval (.tmp 81) = .bool true := (s81).trans (congrArg (fun b => Value.bool (!b)) hc85)
          refine c_true s81 ?_
          refine wp_seq_k fun K86 hK86 => ?_
          refine wp_region_lit ?_
          refine q_v p40.s rfl rfl rfl (g_loadB rfl s2 Try.isAgg32 Try.sizeOf32 rfl h_q2 ?_)
          intro a41 p41
          refine q_v p41.s rfl rfl rfl ?_
          refine g_call rfl rfl Try.call80 (arr1 p41.v) ?_
          refine (copyBoard_any (S := (⟨⟨pA, b.ps.length, pc⟩, ⟨lA, b.ls.length, lc⟩, ⟨oA, b.os.length, oc⟩, ⟨dA, b.ds.length, dc⟩, ⟨rA, b.rs.length, rc⟩, ⟨xA, b.xs.length, xc⟩, ⟨qA, b.qs.length, qc⟩⟩ : BSl)) (b := b) _ ⟨⟨(hr_p.below hB), rfl, hnn_p, hnc_p⟩, ⟨(hr_l.below hB), rfl, hnn_l, hnc_l⟩, ⟨(hr_o.below hB), rfl, hnn_o, hnc_o⟩, ⟨(hr_d.below hB), rfl, hnn_d, hnc_d⟩, ⟨(hr_r.below hB), rfl, hnn_r, hnc_r⟩, ⟨(hr_x.below hB), rfl, hnn_x, hnc_x⟩, ⟨(hr_q.below hB), rfl, hnn_q, hnc_q⟩⟩ hW).mono ?_
          rintro e w88 ⟨⟨⟨pA87, pn87, pc87⟩, ⟨lA87, ln87, lc87⟩, ⟨oA87, on87, oc87⟩, ⟨dA87, dn87, dc87⟩, ⟨rA87, rn87, rc87⟩, ⟨xA87, xn87, xc87⟩, ⟨qA87, qn87, qc87⟩⟩, rfl, ⟨o_p87, o_l87, o_o87, o_d87, o_r87, o_x87, o_q87, ma87, mb87, mc87⟩, hb87⟩
          refine ⟨_, rfl, ?_⟩
          have ep87 : b.ps.length = pn87 := own_lenI o_p87
          subst pn87
          have el87 : b.ls.length = ln87 := own_lenOf (by decide) cLimit_len o_l87
          subst ln87
          have eo87 : b.os.length = on87 := own_lenOf (by decide) cWaiting_len o_o87
          subst on87
          have ed87 : b.ds.length = dn87 := own_lenOf (by decide) cDone_len o_d87
          subst dn87
          have er87 : b.rs.length = rn87 := own_lenOf (by decide) cRecord_len o_r87
          subst rn87
          have ex87 : b.xs.length = xn87 := own_lenI o_x87
          subst xn87
          have eq87 : b.qs.length = qn87 := own_lenI o_q87
          subst qn87
          change w88.ownsRow w84.heap.size 3 1 (.slice pA87 b.ps.length pc87) b.ps.length (b.ps.flatMap cI) at o_p87
          change w88.ownsRow w84.heap.size 36 3 (.slice lA87 b.ls.length lc87) b.ls.length (b.ls.flatMap cLimit) at o_l87
          change w88.ownsRow w84.heap.size 45 5 (.slice oA87 b.os.length oc87) b.os.length (b.os.flatMap cWaiting) at o_o87
          change w88.ownsRow w84.heap.size 51 3 (.slice dA87 b.ds.length dc87) b.ds.length (b.ds.flatMap cDone) at o_d87
          change w88.ownsRow w84.heap.size 47 4 (.slice rA87 b.rs.length rc87) b.rs.length (b.rs.flatMap cRecord) at o_r87
          change w88.ownsRow w84.heap.size 3 1 (.slice xA87 b.xs.length xc87) b.xs.length (b.xs.flatMap cI) at o_x87
          change w88.ownsRow w84.heap.size 3 1 (.slice qA87 b.qs.length qc87) b.qs.length (b.qs.flatMap cI) at o_q87
          have m_p87_x87 := ma87
          have m_p87_q87 := mb87
          have m_x87_q87 := mc87
          have d_p87_q6 := own_ne_box o_p87 (lt_of_block h_q6)
          replace o_p87 := own_base (base := w.heap.size) o_p87 hB.size
          have d_l87_q6 := own_ne_box o_l87 (lt_of_block h_q6)
          replace o_l87 := own_base (base := w.heap.size) o_l87 hB.size
          have d_o87_q6 := own_ne_box o_o87 (lt_of_block h_q6)
          replace o_o87 := own_base (base := w.heap.size) o_o87 hB.size
          have d_d87_q6 := own_ne_box o_d87 (lt_of_block h_q6)
          replace o_d87 := own_base (base := w.heap.size) o_d87 hB.size
          have d_r87_q6 := own_ne_box o_r87 (lt_of_block h_q6)
          replace o_r87 := own_base (base := w.heap.size) o_r87 hB.size
          have d_x87_q6 := own_ne_box o_x87 (lt_of_block h_q6)
          replace o_x87 := own_base (base := w.heap.size) o_x87 hB.size
          have d_q87_q6 := own_ne_box o_q87 (lt_of_block h_q6)
          replace o_q87 := own_base (base := w.heap.size) o_q87 hB.size
          replace h_q2 := keep_below h_q2 hb87
          replace h_q6 := keep_below h_q6 hb87
          replace h_q11 := keep_below h_q11 hb87
          replace h_q25 := keep_below h_q25 hb87
          replace o_p9 := own_below o_p9 hb87
          replace o_l9 := own_below o_l9 hb87
          replace o_o9 := own_below o_o9 hb87
          replace o_d9 := own_below o_d9 hb87
          replace o_r9 := own_below o_r9 hb87
          replace o_x9 := own_below o_x9 hb87
          replace o_q9 := own_below o_q9 hb87
          replace o_r78 := own_below o_r78 hb87
          replace hB := hB.trans (hb87.mono hB.size)
          clear hb87
          intro a42 p42
          refine q_eff rfl rfl ?_
          refine g_storeB rfl (p42.k (p41.k s4 rfl) rfl) p42.v Try.sizeOf32 rfl rfl h_q6 rfl ?_
          intro w89 W_w89
          replace h_q2 := keep_wrote h_q2 W_w89 n_q6_q2
          replace h_q6 := W_w89.here
          replace h_q11 := keep_wrote h_q11 W_w89 n_q6_q11
          replace h_q25 := keep_wrote h_q25 W_w89 n_q6_q25
          replace o_p9 := own_wrote o_p9 W_w89 d_p9_q6
          replace o_l9 := own_wrote o_l9 W_w89 d_l9_q6
          replace o_o9 := own_wrote o_o9 W_w89 d_o9_q6
          replace o_d9 := own_wrote o_d9 W_w89 d_d9_q6
          replace o_r9 := own_wrote o_r9 W_w89 d_r9_q6
          replace o_x9 := own_wrote o_x9 W_w89 d_x9_q6
          replace o_q9 := own_wrote o_q9 W_w89 d_q9_q6
          replace o_r78 := own_wrote o_r78 W_w89 d_r78_q6
          replace o_p87 := own_wrote o_p87 W_w89 d_p87_q6
          replace o_l87 := own_wrote o_l87 W_w89 d_l87_q6
          replace o_o87 := own_wrote o_o87 W_w89 d_o87_q6
          replace o_d87 := own_wrote o_d87 W_w89 d_d87_q6
          replace o_r87 := own_wrote o_r87 W_w89 d_r87_q6
          replace o_x87 := own_wrote o_x87 W_w89 d_x87_q6
          replace o_q87 := own_wrote o_q87 W_w89 d_q87_q6
          replace hB := below_wrote hB hB.size W_w89 g_q6.le
          clear W_w89
          refine q_v p42.s rfl rfl rfl (g_assign rfl rfl ?_)
          intro a43 p43
          have s5 : a43.eval (.tmp 5) = .bool false := p43.v
          refine wpList_nil ?_
          have kc40 := (((Kps.nil a40).u p41).u p42).u p43
          replace s4 := kc40.k s4 rfl
          replace s6 := kc40.k s6 rfl
          replace s8 := kc40.k s8 rfl
          clear kc40
          refine hK86 _ _ ?_
          clear hK86
          refine wp_ret ?_
          try dsimp only [Exit.then, Exit.inBlock]
          refine ret2 p43.s Try.results33 (res_cell s4 h_q6 Try.isAgg32 Try.sizeOf32 rfl) (res_tmp s5) ?_
          have hac := acc_room (b := b) (ok := ok) (ot := ot) (oa := oa) (ob := ob) (by omega)
          rw [← hkp, ← insL_app] at hac
          have hcc : boOk (accC b ok ot oa ob) = false := by rw [hac]; exact hc85
          rw [bdAcc_no (.inr (.inr hcc))]
          exact ⟨⟨⟨pA87, b.ps.length, pc87⟩, ⟨lA87, b.ls.length, lc87⟩, ⟨oA87, b.os.length, oc87⟩, ⟨dA87, b.ds.length, dc87⟩, ⟨rA87, b.rs.length, rc87⟩, ⟨xA87, b.xs.length, xc87⟩, ⟨qA87, b.qs.length, qc87⟩⟩, rfl, ⟨o_p87, o_l87, o_o87, o_d87, o_r87, o_x87, o_q87, m_p87_x87, m_p87_q87, m_x87_q87⟩, hB⟩
        replace s81 : a40.eval (.tmp 81) = .bool false := (s81).trans (congrArg (fun b => Value.bool (!b)) hc85)
        refine c_false s81 ?_
        refine wp_skip ?_
        refine hK81 _ _ ?_
        clear hK81
        refine wp_seq_k fun K90 hK90 => ?_
        refine wp_region_lit ?_
        refine q_v p40.s rfl rfl rfl (g_loadB rfl s6 Try.isAgg32 Try.sizeOf32 rfl h_q11 ?_)
        intro a41 p41
        refine q_v p41.s rfl rfl rfl (g_move rfl (p41.k s8 rfl) ?_)
        intro a42 p42
        refine q_eff rfl rfl ?_
        refine g_storeB rfl (p42.k (p41.k s4 rfl) rfl) (p42.k p41.v rfl) Try.sizeOf32 rfl rfl h_q6 rfl ?_
        intro w91 W_w91
        replace h_q2 := keep_wrote h_q2 W_w91 n_q6_q2
        replace h_q6 := W_w91.here
        replace h_q11 := keep_wrote h_q11 W_w91 n_q6_q11
        replace h_q25 := keep_wrote h_q25 W_w91 n_q6_q25
        replace o_p9 := own_wrote o_p9 W_w91 d_p9_q6
        replace o_l9 := own_wrote o_l9 W_w91 d_l9_q6
        replace o_o9 := own_wrote o_o9 W_w91 d_o9_q6
        replace o_d9 := own_wrote o_d9 W_w91 d_d9_q6
        replace o_r9 := own_wrote o_r9 W_w91 d_r9_q6
        replace o_x9 := own_wrote o_x9 W_w91 d_x9_q6
        replace o_q9 := own_wrote o_q9 W_w91 d_q9_q6
        replace o_r78 := own_wrote o_r78 W_w91 d_r78_q6
        replace hB := below_wrote hB hB.size W_w91 g_q6.le
        clear W_w91
        refine q_v p42.s rfl rfl rfl (g_assign rfl p42.v ?_)
        intro a43 p43
        refine wpList_nil ?_
        replace s4 := p43.k (p42.k (p41.k s4 rfl) rfl) rfl
        replace s5 := p43.v
        refine hK90 _ _ ?_
        clear hK90
        refine wp_ret ?_
        try dsimp only [Exit.then, Exit.inBlock]
        refine ret2 p43.s Try.results33 (res_cell s4 h_q6 Try.isAgg32 Try.sizeOf32 rfl) (res_tmp s5) ?_
        have hac := acc_room (b := b) (ok := ok) (ot := ot) (oa := oa) (ob := ob) (by omega)
        rw [← hkp, ← insL_app] at hac
        have hcc : boOk (accC b ok ot oa ob) = true := by rw [hac]; exact hc85
        rw [bdAcc_yes h1 h2 hcc, hac, decide_eq_true (by omega)]
        exact ⟨⟨⟨pA9, b.ps.length, pc9⟩, ⟨lA9, b.ls.length, lc9⟩, ⟨A_r78, k + 1 + (b.os.length - k), c_r78⟩, ⟨dA9, b.ds.length, dc9⟩, ⟨rA9, b.rs.length, rc9⟩, ⟨xA9, b.xs.length, xc9⟩, ⟨qA9, b.qs.length, qc9⟩⟩, rfl, ⟨o_p9, o_l9, o_r78, o_d9, o_r9, o_x9, o_q9, m_p9_x9, m_p9_q9, m_x9_q9⟩, hB⟩
  replace s8 : a30.eval (.tmp 8) = .bool false := (s8).trans (congrArg Value.bool (decide_eq_false hroom))
  replace s33 : a30.eval (.tmp 33) = .bool false := (s33).trans (congrArg Value.bool (decide_eq_false hroom))
  refine c_false s33 ?_
  refine wp_region_lit ?_
  refine q_v p30.s rfl rfl rfl (g_field (r := 5) rfl s6 Try.underlying32 rfl (fun w => Try.sizeOf27 w) rfl rfl ?_)
  intro a31 p31
  refine q_v p31.s rfl rfl rfl (g_load rfl p31.v Try.isAgg27 (box_cell h_q11 rfl) ?_)
  intro a32 p32
  refine q_v p32.s rfl rfl rfl (g_field (r := 0) rfl (p32.k (p31.k s7 rfl) rfl) Try.underlying45 rfl (fun w => Try.sizeOf3 w) rfl rfl ?_)
  intro a33 p33
  refine q_v p33.s rfl rfl rfl (g_load rfl p33.v Try.isAgg3 (box_cell h_q25 rfl) ?_)
  intro a34 p34
  refine q_v p34.s rfl rfl rfl (g_field (r := 0) rfl (p34.k (p33.k (p32.k (p31.k s2 rfl) rfl) rfl) rfl) Try.underlying32 rfl (fun w => Try.sizeOf3 w) rfl rfl ?_)
  intro a35 p35
  refine q_v p35.s rfl rfl rfl (g_load rfl p35.v Try.isAgg3 (box_cell h_q2 rfl) ?_)
  intro a36 p36
  refine q_v p36.s rfl rfl rfl (g_build (cells := #[.int .i64 b.taken, .int .i64 b.clk, .int .i64 0]) rfl (arrB2 (p36.k (p35.k p34.v rfl) rfl) p36.v) (by kernel_rfl) ?_)
  intro a37 p37
  refine q_v p37.s rfl rfl rfl ?_
  refine g_bslice1 (cs := #[.int .i64 b.taken, .int .i64 b.clk, .int .i64 0]) rfl Try.underlying27 Try.sizeOf51 Try.zeroValue51 p37.v (by kernel_rfl) rfl (by decide) ?_
  intro q92 w93 N_q92
  replace h_q2 := keep_below h_q2 N_q92.below
  replace h_q6 := keep_below h_q6 N_q92.below
  replace h_q11 := keep_below h_q11 N_q92.below
  replace o_p9 := own_below o_p9 N_q92.below
  replace o_l9 := own_below o_l9 N_q92.below
  replace o_o9 := own_below o_o9 N_q92.below
  replace o_d9 := own_below o_d9 N_q92.below
  replace o_r9 := own_below o_r9 N_q92.below
  replace o_x9 := own_below o_x9 N_q92.below
  replace o_q9 := own_below o_q9 N_q92.below
  replace hB := below_new hB hB.size N_q92
  have h_q92 := N_q92.here
  clear N_q92
  intro a38 p38
  refine q_v p38.s rfl rfl rfl ?_
  refine g_append (n' := b.ds.length + 1) (ys := (b.ds ++ [(⟨b.taken, b.clk, 0⟩ : EDone)]).flatMap cDone) w.heap.size (.agg #[.int .i64 0, .int .i64 0, .int .i64 0]) 3 24 rfl (p38.k (p37.k (p36.k (p35.k (p34.k (p33.k p32.v rfl) rfl) rfl) rfl) rfl) rfl) p38.v Try.underlying27 infoDone rfl (by decide) o_d9 (fun h => by cases h) (rd_box (xs := ([(⟨b.taken, b.clk, 0⟩ : EDone)]).flatMap cDone) h_q92 rfl rfl) (flatDone_one _) (by omega) hB.size (by decide) (by omega) (by first | rfl | simp [List.flatMap_append] | (simp [List.flatMap_append, cDone]; done)) ?_
  intro A_r94 c_r94 w95 P_r94
  have d_r94_q6 := P_r94.ne d_d9_q6 (lt_of_block h_q6)
  have d_r94_q11 := P_r94.ne d_d9_q11 (lt_of_block h_q11)
  replace h_q2 := keep_grown h_q2 P_r94.grown d_d9_q2
  replace h_q6 := keep_grown h_q6 P_r94.grown d_d9_q6
  replace h_q11 := keep_grown h_q11 P_r94.grown d_d9_q11
  replace o_p9 := own_grown o_p9 P_r94.grown m_p9_d9
  replace o_l9 := own_grown o_l9 P_r94.grown m_l9_d9
  replace o_o9 := own_grown o_o9 P_r94.grown m_o9_d9
  replace o_r9 := own_grown o_r9 P_r94.grown m_r9_d9
  replace o_x9 := own_grown o_x9 P_r94.grown m_x9_d9
  replace o_q9 := own_grown o_q9 P_r94.grown m_q9_d9
  replace hB := below_grown hB hB.size P_r94.grown g_d9
  have o_r94 := P_r94.own
  clear P_r94
  intro a39 p39
  refine q_v p39.s rfl rfl rfl (g_field (r := 5) rfl (p39.k (p38.k (p37.k (p36.k (p35.k (p34.k (p33.k (p32.k (p31.k s6 rfl) rfl) rfl) rfl) rfl) rfl) rfl) rfl) rfl) Try.underlying32 rfl (fun w => Try.sizeOf27 w) rfl rfl ?_)
  intro a40 p40
  refine q_eff rfl rfl ?_
  refine g_store (cs' := #[.int .i64 b.clk, .slice pA9 b.ps.length pc9, .bool b.safe, .slice lA9 b.ls.length lc9, .slice oA9 b.os.length oc9, .slice A_r94 (b.ds.length + 1) c_r94, .int .i64 b.room, .slice rA9 b.rs.length rc9, .slice xA9 b.xs.length xc9, .int .i64 b.made, .int .i64 (b.taken + 1), .slice qA9 b.qs.length qc9]) rfl p40.v (p40.k p39.v rfl) Try.sizeOf27 rfl h_q11 (Nat.le_of_ble_eq_true rfl) rfl ?_
  intro w96 W_w96
  replace h_q2 := keep_wrote h_q2 W_w96 n_q11_q2
  replace h_q6 := keep_wrote h_q6 W_w96 n_q11_q6
  replace h_q11 := W_w96.here
  replace o_p9 := own_wrote o_p9 W_w96 d_p9_q11
  replace o_l9 := own_wrote o_l9 W_w96 d_l9_q11
  replace o_o9 := own_wrote o_o9 W_w96 d_o9_q11
  replace o_r9 := own_wrote o_r9 W_w96 d_r9_q11
  replace o_x9 := own_wrote o_x9 W_w96 d_x9_q11
  replace o_q9 := own_wrote o_q9 W_w96 d_q9_q11
  replace o_r94 := own_wrote o_r94 W_w96 d_r94_q11
  replace hB := below_wrote hB hB.size W_w96 g_q11.le
  clear W_w96
  refine wpList_nil ?_
  have kc30 := ((((((((((Kps.nil a30).u p31).u p32).u p33).u p34).u p35).u p36).u p37).u p38).u p39).u p40
  replace s2 := kc30.k s2 rfl
  replace s4 := kc30.k s4 rfl
  replace s5 := kc30.k s5 rfl
  replace s6 := kc30.k s6 rfl
  replace s8 := kc30.k s8 rfl
  clear kc30
  refine hK31 _ _ ?_
  clear hK31
  refine wp_seq_k fun K97 hK97 => ?_
  refine wp_seq_k fun K98 hK98 => ?_
  refine wp_region_lit ?_
  refine q_v p40.s rfl rfl rfl (g_loadB rfl s6 Try.isAgg32 Try.sizeOf32 rfl h_q11 ?_)
  intro a41 p41
  refine q_v p41.s rfl rfl rfl ?_
  refine g_call rfl rfl Try.call23 (arr1 p41.v) ?_
  refine (sBoardOk_any (S := (⟨⟨pA9, b.ps.length, pc9⟩, ⟨lA9, b.ls.length, lc9⟩, ⟨oA9, b.os.length, oc9⟩, ⟨A_r94, b.ds.length + 1, c_r94⟩, ⟨rA9, b.rs.length, rc9⟩, ⟨xA9, b.xs.length, xc9⟩, ⟨qA9, b.qs.length, qc9⟩⟩ : BSl)) (b := (⟨b.clk, b.ps, b.safe, b.ls, b.os, b.ds ++ [(⟨b.taken, b.clk, 0⟩ : EDone)], b.room, b.rs, b.xs, b.made, b.taken + 1, b.qs⟩ : EBoard)) _ ⟨⟨(Rd.of_own o_p9), rfl, (own_nil o_p9), (own_cap o_p9).1⟩, ⟨(Rd.of_own o_l9), rfl, (own_nil o_l9), (own_cap o_l9).1⟩, ⟨(Rd.of_own o_o9), rfl, (own_nil o_o9), (own_cap o_o9).1⟩, ⟨(Rd.of_own o_r94), (by simp only [List.length_append, List.length_cons, List.length_nil, List.length_drop, List.length_take] <;> omega), (own_nil o_r94), (own_cap o_r94).1⟩, ⟨(Rd.of_own o_r9), rfl, (own_nil o_r9), (own_cap o_r9).1⟩, ⟨(Rd.of_own o_x9), rfl, (own_nil o_x9), (own_cap o_x9).1⟩, ⟨(Rd.of_own o_q9), rfl, (own_nil o_q9), (own_cap o_q9).1⟩⟩ ⟨leq_len (n := b.ps.length) rfl (by omega), leq_len (n := b.ls.length) rfl (by omega), leq_len (n := b.os.length) rfl (by omega), leq_len (n := b.ds.length + 1) (by simp only [List.length_append, List.length_cons, List.length_nil, List.length_drop, List.length_take] <;> omega) (by omega), leq_len (n := b.rs.length) rfl (by omega), leq_len (n := b.xs.length) rfl (by omega), leq_len (n := b.qs.length) rfl (by omega), hW.tx⟩).mono ?_
  rintro e w100 ⟨rfl, hb99⟩
  refine ⟨_, rfl, ?_⟩
  replace h_q2 := keep_below h_q2 hb99
  replace h_q6 := keep_below h_q6 hb99
  replace h_q11 := keep_below h_q11 hb99
  replace o_p9 := own_below o_p9 hb99
  replace o_l9 := own_below o_l9 hb99
  replace o_o9 := own_below o_o9 hb99
  replace o_r9 := own_below o_r9 hb99
  replace o_x9 := own_below o_x9 hb99
  replace o_q9 := own_below o_q9 hb99
  replace o_r94 := own_below o_r94 hb99
  replace hB := hB.trans (hb99.mono hB.size)
  clear hb99
  intro a42 p42
  refine q_v p42.s rfl rfl rfl (g_not rfl p42.v ?_)
  intro a43 p43
  refine wpList_nil ?_
  have kc40 := (((Kps.nil a40).u p41).u p42).u p43
  replace s2 := kc40.k s2 rfl
  replace s4 := kc40.k s4 rfl
  replace s5 := kc40.k s5 rfl
  replace s6 := kc40.k s6 rfl
  replace s8 := kc40.k s8 rfl
  replace s81 := p43.v
  clear kc40
  refine hK98 _ _ ?_
  clear hK98
  cases hc101 : boOk (⟨b.clk, b.ps, b.safe, b.ls, b.os, b.ds ++ [(⟨b.taken, b.clk, 0⟩ : EDone)], b.room, b.rs, b.xs, b.made, b.taken + 1, b.qs⟩ : EBoard)
  · replace s81 : a43.eval (.tmp 81) = .bool true := (s81).trans (congrArg (fun b => Value.bool (!b)) hc101)
    refine c_true s81 ?_
    refine wp_seq_k fun K102 hK102 => ?_
    refine wp_region_lit ?_
    refine q_v p43.s rfl rfl rfl (g_loadB rfl s2 Try.isAgg32 Try.sizeOf32 rfl h_q2 ?_)
    intro a44 p44
    refine q_v p44.s rfl rfl rfl ?_
    refine g_call rfl rfl Try.call80 (arr1 p44.v) ?_
    refine (copyBoard_any (S := (⟨⟨pA, b.ps.length, pc⟩, ⟨lA, b.ls.length, lc⟩, ⟨oA, b.os.length, oc⟩, ⟨dA, b.ds.length, dc⟩, ⟨rA, b.rs.length, rc⟩, ⟨xA, b.xs.length, xc⟩, ⟨qA, b.qs.length, qc⟩⟩ : BSl)) (b := b) _ ⟨⟨(hr_p.below hB), rfl, hnn_p, hnc_p⟩, ⟨(hr_l.below hB), rfl, hnn_l, hnc_l⟩, ⟨(hr_o.below hB), rfl, hnn_o, hnc_o⟩, ⟨(hr_d.below hB), rfl, hnn_d, hnc_d⟩, ⟨(hr_r.below hB), rfl, hnn_r, hnc_r⟩, ⟨(hr_x.below hB), rfl, hnn_x, hnc_x⟩, ⟨(hr_q.below hB), rfl, hnn_q, hnc_q⟩⟩ hW).mono ?_
    rintro e w104 ⟨⟨⟨pA103, pn103, pc103⟩, ⟨lA103, ln103, lc103⟩, ⟨oA103, on103, oc103⟩, ⟨dA103, dn103, dc103⟩, ⟨rA103, rn103, rc103⟩, ⟨xA103, xn103, xc103⟩, ⟨qA103, qn103, qc103⟩⟩, rfl, ⟨o_p103, o_l103, o_o103, o_d103, o_r103, o_x103, o_q103, ma103, mb103, mc103⟩, hb103⟩
    refine ⟨_, rfl, ?_⟩
    have ep103 : b.ps.length = pn103 := own_lenI o_p103
    subst pn103
    have el103 : b.ls.length = ln103 := own_lenOf (by decide) cLimit_len o_l103
    subst ln103
    have eo103 : b.os.length = on103 := own_lenOf (by decide) cWaiting_len o_o103
    subst on103
    have ed103 : b.ds.length = dn103 := own_lenOf (by decide) cDone_len o_d103
    subst dn103
    have er103 : b.rs.length = rn103 := own_lenOf (by decide) cRecord_len o_r103
    subst rn103
    have ex103 : b.xs.length = xn103 := own_lenI o_x103
    subst xn103
    have eq103 : b.qs.length = qn103 := own_lenI o_q103
    subst qn103
    change w104.ownsRow w100.heap.size 3 1 (.slice pA103 b.ps.length pc103) b.ps.length (b.ps.flatMap cI) at o_p103
    change w104.ownsRow w100.heap.size 36 3 (.slice lA103 b.ls.length lc103) b.ls.length (b.ls.flatMap cLimit) at o_l103
    change w104.ownsRow w100.heap.size 45 5 (.slice oA103 b.os.length oc103) b.os.length (b.os.flatMap cWaiting) at o_o103
    change w104.ownsRow w100.heap.size 51 3 (.slice dA103 b.ds.length dc103) b.ds.length (b.ds.flatMap cDone) at o_d103
    change w104.ownsRow w100.heap.size 47 4 (.slice rA103 b.rs.length rc103) b.rs.length (b.rs.flatMap cRecord) at o_r103
    change w104.ownsRow w100.heap.size 3 1 (.slice xA103 b.xs.length xc103) b.xs.length (b.xs.flatMap cI) at o_x103
    change w104.ownsRow w100.heap.size 3 1 (.slice qA103 b.qs.length qc103) b.qs.length (b.qs.flatMap cI) at o_q103
    have m_p103_x103 := ma103
    have m_p103_q103 := mb103
    have m_x103_q103 := mc103
    have d_p103_q6 := own_ne_box o_p103 (lt_of_block h_q6)
    replace o_p103 := own_base (base := w.heap.size) o_p103 hB.size
    have d_l103_q6 := own_ne_box o_l103 (lt_of_block h_q6)
    replace o_l103 := own_base (base := w.heap.size) o_l103 hB.size
    have d_o103_q6 := own_ne_box o_o103 (lt_of_block h_q6)
    replace o_o103 := own_base (base := w.heap.size) o_o103 hB.size
    have d_d103_q6 := own_ne_box o_d103 (lt_of_block h_q6)
    replace o_d103 := own_base (base := w.heap.size) o_d103 hB.size
    have d_r103_q6 := own_ne_box o_r103 (lt_of_block h_q6)
    replace o_r103 := own_base (base := w.heap.size) o_r103 hB.size
    have d_x103_q6 := own_ne_box o_x103 (lt_of_block h_q6)
    replace o_x103 := own_base (base := w.heap.size) o_x103 hB.size
    have d_q103_q6 := own_ne_box o_q103 (lt_of_block h_q6)
    replace o_q103 := own_base (base := w.heap.size) o_q103 hB.size
    replace h_q6 := keep_below h_q6 hb103
    replace h_q11 := keep_below h_q11 hb103
    replace o_p9 := own_below o_p9 hb103
    replace o_l9 := own_below o_l9 hb103
    replace o_o9 := own_below o_o9 hb103
    replace o_r9 := own_below o_r9 hb103
    replace o_x9 := own_below o_x9 hb103
    replace o_q9 := own_below o_q9 hb103
    replace o_r94 := own_below o_r94 hb103
    replace hB := hB.trans (hb103.mono hB.size)
    clear hb103
    intro a45 p45
    refine q_eff rfl rfl ?_
    refine g_storeB rfl (p45.k (p44.k s4 rfl) rfl) p45.v Try.sizeOf32 rfl rfl h_q6 rfl ?_
    intro w105 W_w105
    replace h_q6 := W_w105.here
    replace h_q11 := keep_wrote h_q11 W_w105 n_q6_q11
    replace o_p9 := own_wrote o_p9 W_w105 d_p9_q6
    replace o_l9 := own_wrote o_l9 W_w105 d_l9_q6
    replace o_o9 := own_wrote o_o9 W_w105 d_o9_q6
    replace o_r9 := own_wrote o_r9 W_w105 d_r9_q6
    replace o_x9 := own_wrote o_x9 W_w105 d_x9_q6
    replace o_q9 := own_wrote o_q9 W_w105 d_q9_q6
    replace o_r94 := own_wrote o_r94 W_w105 d_r94_q6
    replace o_p103 := own_wrote o_p103 W_w105 d_p103_q6
    replace o_l103 := own_wrote o_l103 W_w105 d_l103_q6
    replace o_o103 := own_wrote o_o103 W_w105 d_o103_q6
    replace o_d103 := own_wrote o_d103 W_w105 d_d103_q6
    replace o_r103 := own_wrote o_r103 W_w105 d_r103_q6
    replace o_x103 := own_wrote o_x103 W_w105 d_x103_q6
    replace o_q103 := own_wrote o_q103 W_w105 d_q103_q6
    replace hB := below_wrote hB hB.size W_w105 g_q6.le
    clear W_w105
    refine q_v p45.s rfl rfl rfl (g_assign rfl rfl ?_)
    intro a46 p46
    have s5 : a46.eval (.tmp 5) = .bool false := p46.v
    refine wpList_nil ?_
    have kc43 := (((Kps.nil a43).u p44).u p45).u p46
    replace s4 := kc43.k s4 rfl
    replace s6 := kc43.k s6 rfl
    replace s8 := kc43.k s8 rfl
    clear kc43
    refine hK102 _ _ ?_
    clear hK102
    refine wp_ret ?_
    try dsimp only [Exit.then, Exit.inBlock]
    refine ret2 p46.s Try.results33 (res_cell s4 h_q6 Try.isAgg32 Try.sizeOf32 rfl) (res_tmp s5) ?_
    have hac := acc_full (b := b) (ok := ok) (ot := ot) (oa := oa) (ob := ob) (by omega)
    have hcc : boOk (accC b ok ot oa ob) = false := by rw [hac]; exact hc101
    rw [bdAcc_no (.inr (.inr hcc))]
    exact ⟨⟨⟨pA103, b.ps.length, pc103⟩, ⟨lA103, b.ls.length, lc103⟩, ⟨oA103, b.os.length, oc103⟩, ⟨dA103, b.ds.length, dc103⟩, ⟨rA103, b.rs.length, rc103⟩, ⟨xA103, b.xs.length, xc103⟩, ⟨qA103, b.qs.length, qc103⟩⟩, rfl, ⟨o_p103, o_l103, o_o103, o_d103, o_r103, o_x103, o_q103, m_p103_x103, m_p103_q103, m_x103_q103⟩, hB⟩
  replace s81 : a43.eval (.tmp 81) = .bool false := (s81).trans (congrArg (fun b => Value.bool (!b)) hc101)
  refine c_false s81 ?_
  refine wp_skip ?_
  refine hK97 _ _ ?_
  clear hK97
  refine wp_seq_k fun K106 hK106 => ?_
  refine wp_region_lit ?_
  refine q_v p43.s rfl rfl rfl (g_loadB rfl s6 Try.isAgg32 Try.sizeOf32 rfl h_q11 ?_)
  intro a44 p44
  refine q_v p44.s rfl rfl rfl (g_move rfl (p44.k s8 rfl) ?_)
  intro a45 p45
  refine q_eff rfl rfl ?_
  refine g_storeB rfl (p45.k (p44.k s4 rfl) rfl) (p45.k p44.v rfl) Try.sizeOf32 rfl rfl h_q6 rfl ?_
  intro w107 W_w107
  replace h_q6 := W_w107.here
  replace o_p9 := own_wrote o_p9 W_w107 d_p9_q6
  replace o_l9 := own_wrote o_l9 W_w107 d_l9_q6
  replace o_o9 := own_wrote o_o9 W_w107 d_o9_q6
  replace o_r9 := own_wrote o_r9 W_w107 d_r9_q6
  replace o_x9 := own_wrote o_x9 W_w107 d_x9_q6
  replace o_q9 := own_wrote o_q9 W_w107 d_q9_q6
  replace o_r94 := own_wrote o_r94 W_w107 d_r94_q6
  replace hB := below_wrote hB hB.size W_w107 g_q6.le
  clear W_w107
  refine q_v p45.s rfl rfl rfl (g_assign rfl p45.v ?_)
  intro a46 p46
  refine wpList_nil ?_
  replace s4 := p46.k (p45.k (p44.k s4 rfl) rfl) rfl
  replace s5 := p46.v
  refine hK106 _ _ ?_
  clear hK106
  refine wp_ret ?_
  try dsimp only [Exit.then, Exit.inBlock]
  refine ret2 p46.s Try.results33 (res_cell s4 h_q6 Try.isAgg32 Try.sizeOf32 rfl) (res_tmp s5) ?_
  have hac := acc_full (b := b) (ok := ok) (ot := ot) (oa := oa) (ob := ob) (by omega)
  have hcc : boOk (accC b ok ot oa ob) = true := by rw [hac]; exact hc101
  rw [bdAcc_yes h1 h2 hcc, hac, decide_eq_false (by omega)]
  exact ⟨⟨⟨pA9, b.ps.length, pc9⟩, ⟨lA9, b.ls.length, lc9⟩, ⟨oA9, b.os.length, oc9⟩, ⟨A_r94, b.ds.length + 1, c_r94⟩, ⟨rA9, b.rs.length, rc9⟩, ⟨xA9, b.xs.length, xc9⟩, ⟨qA9, b.qs.length, qc9⟩⟩, rfl, ⟨o_p9, o_l9, o_o9, o_r94, o_r9, o_x9, o_q9, m_p9_x9, m_p9_q9, m_x9_q9⟩, hB⟩
end Go.Proofs.Ytoccapmoehdohaa
