/- Contracts: copies of boards, in the program and in the reference. No condition. -/
import Derived.Test.YtoccapmoehdohaaBdLaw
import Derived.Test.YtoccapmoehdohaaRcCopy
import Derived.Test.YtoccapmoehdohaaFlowPart
import Derived.Test.YtoccapmoehdohaaFlowQ
import Derived.Test.YtoccapmoehdohaaFlowTxt
namespace Go.Proofs.Ytoccapmoehdohaa
open Go.RowKit
set_option linter.unusedSimpArgs false
set_option linter.unusedVariables false

set_option maxRecDepth 100000 in
set_option maxHeartbeats 4000000 in
theorem cloneBoard_any {S : BSl} {b : EBoard} (w : World) (hR : RdB w S b) (hW : BdW b) :
    Calls Try.prog 41 #[bdV S b] w fun e w' => ∃ S', e = .returned (bdV S' b) ∧ OwnB w' w.heap.size S' b ∧ Below w.heap.size w w' := by
  obtain ⟨⟨pA, pn, pc⟩, ⟨lA, ln, lc⟩, ⟨oA, on, oc⟩, ⟨dA, dn, dc⟩, ⟨rA, rn, rc⟩, ⟨xA, xn, xc⟩, ⟨qA, qn, qc⟩⟩ := S
  obtain ⟨⟨hr_p, hl_p, hnn_p, hnc_p⟩, ⟨hr_l, hl_l, hnn_l, hnc_l⟩, ⟨hr_o, hl_o, hnn_o, hnc_o⟩, ⟨hr_d, hl_d, hnn_d, hnc_d⟩, ⟨hr_r, hl_r, hnn_r, hnc_r⟩, ⟨hr_x, hl_x, hnn_x, hnc_x⟩, ⟨hr_q, hl_q, hnn_q, hnc_q⟩⟩ := hR
  change b.ps.length = pn at hl_p
  subst pn
  change Rd _ 1 pA b.ps.length (b.ps.flatMap cI) at hr_p
  change pA = none → b.ps.length = 0 ∧ pc = 0 at hnn_p
  change b.ps.length ≤ pc at hnc_p
  change b.ls.length = ln at hl_l
  subst ln
  change Rd _ 3 lA b.ls.length (b.ls.flatMap cLimit) at hr_l
  change lA = none → b.ls.length = 0 ∧ lc = 0 at hnn_l
  change b.ls.length ≤ lc at hnc_l
  change b.os.length = on at hl_o
  subst on
  change Rd _ 5 oA b.os.length (b.os.flatMap cWaiting) at hr_o
  change oA = none → b.os.length = 0 ∧ oc = 0 at hnn_o
  change b.os.length ≤ oc at hnc_o
  change b.ds.length = dn at hl_d
  subst dn
  change Rd _ 3 dA b.ds.length (b.ds.flatMap cDone) at hr_d
  change dA = none → b.ds.length = 0 ∧ dc = 0 at hnn_d
  change b.ds.length ≤ dc at hnc_d
  change b.rs.length = rn at hl_r
  subst rn
  change Rd _ 4 rA b.rs.length (b.rs.flatMap cRecord) at hr_r
  change rA = none → b.rs.length = 0 ∧ rc = 0 at hnn_r
  change b.rs.length ≤ rc at hnc_r
  change b.xs.length = xn at hl_x
  subst xn
  change Rd _ 1 xA b.xs.length (b.xs.flatMap cI) at hr_x
  change xA = none → b.xs.length = 0 ∧ xc = 0 at hnn_x
  change b.xs.length ≤ xc at hnc_x
  change b.qs.length = qn at hl_q
  subst qn
  change Rd _ 1 qA b.qs.length (b.qs.flatMap cI) at hr_q
  change qA = none → b.qs.length = 0 ∧ qc = 0 at hnn_q
  change b.qs.length ≤ qc at hnc_q
  have hW1 := hW.ps
  have hW2 := hW.ls
  have hW3 := hW.os
  have hW4 := hW.ds
  have hW5 := hW.rs
  have hW6 := hW.xs
  have hW7 := hW.qs
  refine enter 28 Try.func41 rfl rfl (Nat.le_of_ble_eq_true rfl) ?_
  intro a0 hs hargs
  have s0 : a0.eval (.tmp 0) = .agg #[.int .i64 b.clk, .slice pA b.ps.length pc, .bool b.safe, .slice lA b.ls.length lc, .slice oA b.os.length oc, .slice dA b.ds.length dc, .int .i64 b.room, .slice rA b.rs.length rc, .slice xA b.xs.length xc, .int .i64 b.made, .int .i64 b.taken, .slice qA b.qs.length qc] := hargs 0 _ rfl
  clear hargs
  have hB : Below w.heap.size w w := Below.refl _ _
  refine wp_seq_k fun K1 hK1 => ?_
  refine wp_region_lit ?_
  refine q_v hs rfl rfl rfl ?_
  refine g_box rfl s0 rfl ?_
  intro q2 w3 N_q2
  have g_q2 : GeB w.heap.size q2 := ⟨Nat.le_trans hB.size N_q2.lo⟩
  replace hB := below_new hB hB.size N_q2
  have h_q2 := N_q2.here
  clear N_q2
  intro a1 p1
  refine q_v p1.s rfl rfl rfl ?_
  refine g_alloc rfl Try.zeroValue32 rfl ?_
  intro q4 w5 N_q4
  have n_q2_q4 := N_q4.ne ⟨lt_of_block h_q2⟩
  have g_q4 : GeB w.heap.size q4 := ⟨Nat.le_trans hB.size N_q4.lo⟩
  replace h_q2 := keep_below h_q2 N_q4.below
  replace hB := below_new hB hB.size N_q4
  have h_q4 := N_q4.here
  clear N_q4
  intro a2 p2
  refine wpList_nil ?_
  replace s1 := p2.k p1.v rfl
  replace s2 := p2.v
  refine hK1 _ _ ?_
  clear hK1
  refine wp_seq_k fun K6 hK6 => ?_
  refine wp_region_lit ?_
  refine q_v p2.s rfl rfl rfl (g_field (r := 1) rfl s1 Try.underlying32 rfl (fun w => Try.sizeOf24 w) rfl rfl ?_)
  intro a3 p3
  refine q_v p3.s rfl rfl rfl (g_load rfl p3.v Try.isAgg24 (box_cell h_q2 rfl) ?_)
  intro a4 p4
  refine q_v p4.s rfl rfl rfl ?_
  refine g_call rfl rfl Try.call84 (arr1 p4.v) ?_
  refine (cloneI_any _ _ _ b.ps _ rfl (by omega) (hr_p.below hB)).mono ?_
  rintro e w8 ⟨A7, c7, rfl, o_x7, hb7⟩
  refine ⟨_, rfl, ?_⟩
  have d_x7_q2 := own_ne_box o_x7 (lt_of_block h_q2)
  have d_x7_q4 := own_ne_box o_x7 (lt_of_block h_q4)
  replace o_x7 := own_base (base := w.heap.size) o_x7 hB.size
  replace h_q2 := keep_below h_q2 hb7
  replace h_q4 := keep_below h_q4 hb7
  replace hB := hB.trans (hb7.mono hB.size)
  clear hb7
  intro a5 p5
  refine q_v p5.s rfl rfl rfl (g_field (r := 1) rfl (p5.k (p4.k (p3.k s1 rfl) rfl) rfl) Try.underlying32 rfl (fun w => Try.sizeOf24 w) rfl rfl ?_)
  intro a6 p6
  refine q_eff rfl rfl ?_
  refine g_store (cs' := #[.int .i64 b.clk, .slice A7 b.ps.length c7, .bool b.safe, .slice lA b.ls.length lc, .slice oA b.os.length oc, .slice dA b.ds.length dc, .int .i64 b.room, .slice rA b.rs.length rc, .slice xA b.xs.length xc, .int .i64 b.made, .int .i64 b.taken, .slice qA b.qs.length qc]) rfl p6.v (p6.k p5.v rfl) Try.sizeOf24 rfl h_q2 (Nat.le_of_ble_eq_true rfl) rfl ?_
  intro w9 W_w9
  replace h_q2 := W_w9.here
  replace h_q4 := keep_wrote h_q4 W_w9 n_q2_q4
  replace o_x7 := own_wrote o_x7 W_w9 d_x7_q2
  replace hB := below_wrote hB hB.size W_w9 g_q2.le
  clear W_w9
  refine wpList_nil ?_
  have kc2 := ((((Kps.nil a2).u p3).u p4).u p5).u p6
  replace s1 := kc2.k s1 rfl
  replace s2 := kc2.k s2 rfl
  clear kc2
  refine hK6 _ _ ?_
  clear hK6
  refine wp_seq_k fun K10 hK10 => ?_
  refine wp_region_lit ?_
  refine q_v p6.s rfl rfl rfl (g_field (r := 3) rfl s1 Try.underlying32 rfl (fun w => Try.sizeOf25 w) rfl rfl ?_)
  intro a7 p7
  refine q_v p7.s rfl rfl rfl (g_load rfl p7.v Try.isAgg25 (box_cell h_q2 rfl) ?_)
  intro a8 p8
  refine q_v p8.s rfl rfl rfl ?_
  refine g_call rfl rfl Try.call39 (arr1 p8.v) ?_
  refine (cloneLimit_any _ _ _ b.ls _ rfl (by omega) (hr_l.below hB)).mono ?_
  rintro e w12 ⟨A11, c11, rfl, o_x11, hb11⟩
  refine ⟨_, rfl, ?_⟩
  have d_x11_q2 := own_ne_box o_x11 (lt_of_block h_q2)
  have d_x11_q4 := own_ne_box o_x11 (lt_of_block h_q4)
  replace o_x11 := own_base (base := w.heap.size) o_x11 hB.size
  replace h_q2 := keep_below h_q2 hb11
  replace h_q4 := keep_below h_q4 hb11
  replace o_x7 := own_below o_x7 hb11
  replace hB := hB.trans (hb11.mono hB.size)
  clear hb11
  intro a9 p9
  refine q_v p9.s rfl rfl rfl (g_field (r := 3) rfl (p9.k (p8.k (p7.k s1 rfl) rfl) rfl) Try.underlying32 rfl (fun w => Try.sizeOf25 w) rfl rfl ?_)
  intro a10 p10
  refine q_eff rfl rfl ?_
  refine g_store (cs' := #[.int .i64 b.clk, .slice A7 b.ps.length c7, .bool b.safe, .slice A11 b.ls.length c11, .slice oA b.os.length oc, .slice dA b.ds.length dc, .int .i64 b.room, .slice rA b.rs.length rc, .slice xA b.xs.length xc, .int .i64 b.made, .int .i64 b.taken, .slice qA b.qs.length qc]) rfl p10.v (p10.k p9.v rfl) Try.sizeOf25 rfl h_q2 (Nat.le_of_ble_eq_true rfl) rfl ?_
  intro w13 W_w13
  replace h_q2 := W_w13.here
  replace h_q4 := keep_wrote h_q4 W_w13 n_q2_q4
  replace o_x7 := own_wrote o_x7 W_w13 d_x7_q2
  replace o_x11 := own_wrote o_x11 W_w13 d_x11_q2
  replace hB := below_wrote hB hB.size W_w13 g_q2.le
  clear W_w13
  refine wpList_nil ?_
  have kc6 := ((((Kps.nil a6).u p7).u p8).u p9).u p10
  replace s1 := kc6.k s1 rfl
  replace s2 := kc6.k s2 rfl
  clear kc6
  refine hK10 _ _ ?_
  clear hK10
  refine wp_seq_k fun K14 hK14 => ?_
  refine wp_region_lit ?_
  refine q_v p10.s rfl rfl rfl (g_field (r := 4) rfl s1 Try.underlying32 rfl (fun w => Try.sizeOf26 w) rfl rfl ?_)
  intro a11 p11
  refine q_v p11.s rfl rfl rfl (g_load rfl p11.v Try.isAgg26 (box_cell h_q2 rfl) ?_)
  intro a12 p12
  refine q_v p12.s rfl rfl rfl ?_
  refine g_call rfl rfl Try.call85 (arr1 p12.v) ?_
  refine (cloneWaiting_any _ _ _ b.os _ rfl (by omega) (hr_o.below hB)).mono ?_
  rintro e w16 ⟨A15, c15, rfl, o_x15, hb15⟩
  refine ⟨_, rfl, ?_⟩
  have d_x15_q2 := own_ne_box o_x15 (lt_of_block h_q2)
  have d_x15_q4 := own_ne_box o_x15 (lt_of_block h_q4)
  replace o_x15 := own_base (base := w.heap.size) o_x15 hB.size
  replace h_q2 := keep_below h_q2 hb15
  replace h_q4 := keep_below h_q4 hb15
  replace o_x7 := own_below o_x7 hb15
  replace o_x11 := own_below o_x11 hb15
  replace hB := hB.trans (hb15.mono hB.size)
  clear hb15
  intro a13 p13
  refine q_v p13.s rfl rfl rfl (g_field (r := 4) rfl (p13.k (p12.k (p11.k s1 rfl) rfl) rfl) Try.underlying32 rfl (fun w => Try.sizeOf26 w) rfl rfl ?_)
  intro a14 p14
  refine q_eff rfl rfl ?_
  refine g_store (cs' := #[.int .i64 b.clk, .slice A7 b.ps.length c7, .bool b.safe, .slice A11 b.ls.length c11, .slice A15 b.os.length c15, .slice dA b.ds.length dc, .int .i64 b.room, .slice rA b.rs.length rc, .slice xA b.xs.length xc, .int .i64 b.made, .int .i64 b.taken, .slice qA b.qs.length qc]) rfl p14.v (p14.k p13.v rfl) Try.sizeOf26 rfl h_q2 (Nat.le_of_ble_eq_true rfl) rfl ?_
  intro w17 W_w17
  replace h_q2 := W_w17.here
  replace h_q4 := keep_wrote h_q4 W_w17 n_q2_q4
  replace o_x7 := own_wrote o_x7 W_w17 d_x7_q2
  replace o_x11 := own_wrote o_x11 W_w17 d_x11_q2
  replace o_x15 := own_wrote o_x15 W_w17 d_x15_q2
  replace hB := below_wrote hB hB.size W_w17 g_q2.le
  clear W_w17
  refine wpList_nil ?_
  have kc10 := ((((Kps.nil a10).u p11).u p12).u p13).u p14
  replace s1 := kc10.k s1 rfl
  replace s2 := kc10.k s2 rfl
  clear kc10
  refine hK14 _ _ ?_
  clear hK14
  refine wp_seq_k fun K18 hK18 => ?_
  refine wp_region_lit ?_
  refine q_v p14.s rfl rfl rfl (g_field (r := 5) rfl s1 Try.underlying32 rfl (fun w => Try.sizeOf27 w) rfl rfl ?_)
  intro a15 p15
  refine q_v p15.s rfl rfl rfl (g_load rfl p15.v Try.isAgg27 (box_cell h_q2 rfl) ?_)
  intro a16 p16
  refine q_v p16.s rfl rfl rfl ?_
  refine g_call rfl rfl Try.call86 (arr1 p16.v) ?_
  refine (cloneDone_any _ _ _ b.ds _ rfl (by omega) (hr_d.below hB)).mono ?_
  rintro e w20 ⟨A19, c19, rfl, o_x19, hb19⟩
  refine ⟨_, rfl, ?_⟩
  have d_x19_q2 := own_ne_box o_x19 (lt_of_block h_q2)
  have d_x19_q4 := own_ne_box o_x19 (lt_of_block h_q4)
  replace o_x19 := own_base (base := w.heap.size) o_x19 hB.size
  replace h_q2 := keep_below h_q2 hb19
  replace h_q4 := keep_below h_q4 hb19
  replace o_x7 := own_below o_x7 hb19
  replace o_x11 := own_below o_x11 hb19
  replace o_x15 := own_below o_x15 hb19
  replace hB := hB.trans (hb19.mono hB.size)
  clear hb19
  intro a17 p17
  refine q_v p17.s rfl rfl rfl (g_field (r := 5) rfl (p17.k (p16.k (p15.k s1 rfl) rfl) rfl) Try.underlying32 rfl (fun w => Try.sizeOf27 w) rfl rfl ?_)
  intro a18 p18
  refine q_eff rfl rfl ?_
  refine g_store (cs' := #[.int .i64 b.clk, .slice A7 b.ps.length c7, .bool b.safe, .slice A11 b.ls.length c11, .slice A15 b.os.length c15, .slice A19 b.ds.length c19, .int .i64 b.room, .slice rA b.rs.length rc, .slice xA b.xs.length xc, .int .i64 b.made, .int .i64 b.taken, .slice qA b.qs.length qc]) rfl p18.v (p18.k p17.v rfl) Try.sizeOf27 rfl h_q2 (Nat.le_of_ble_eq_true rfl) rfl ?_
  intro w21 W_w21
  replace h_q2 := W_w21.here
  replace h_q4 := keep_wrote h_q4 W_w21 n_q2_q4
  replace o_x7 := own_wrote o_x7 W_w21 d_x7_q2
  replace o_x11 := own_wrote o_x11 W_w21 d_x11_q2
  replace o_x15 := own_wrote o_x15 W_w21 d_x15_q2
  replace o_x19 := own_wrote o_x19 W_w21 d_x19_q2
  replace hB := below_wrote hB hB.size W_w21 g_q2.le
  clear W_w21
  refine wpList_nil ?_
  have kc14 := ((((Kps.nil a14).u p15).u p16).u p17).u p18
  replace s1 := kc14.k s1 rfl
  replace s2 := kc14.k s2 rfl
  clear kc14
  refine hK18 _ _ ?_
  clear hK18
  refine wp_seq_k fun K22 hK22 => ?_
  refine wp_region_lit ?_
  refine q_v p18.s rfl rfl rfl (g_field (r := 6) rfl s1 Try.underlying32 rfl (fun w => Try.sizeOf30 w) rfl rfl ?_)
  intro a19 p19
  refine q_v p19.s rfl rfl rfl (g_loadA (l := [.int .i64 b.room, .slice rA b.rs.length rc, .slice xA b.xs.length xc]) rfl p19.v Try.isAgg30 Try.sizeOf30 rfl (box_part h_q2 rfl) ?_)
  intro a20 p20
  refine q_v p20.s rfl rfl rfl ?_
  refine g_call rfl rfl Try.call87 (arr1 p20.v) ?_
  refine (cloneRecorder_any _ _ _ _ _ _ _ b.rs b.xs _ rfl (by omega) (hr_r.below hB) rfl (by omega) (hr_x.below hB)).mono ?_
  rintro e w24 ⟨A23, c23, B23, d23, rfl, o_z23, o_y23, hb23⟩
  refine ⟨_, rfl, ?_⟩
  have d_z23_q2 := own_ne_box o_z23 (lt_of_block h_q2)
  have d_z23_q4 := own_ne_box o_z23 (lt_of_block h_q4)
  replace o_z23 := own_base (base := w.heap.size) o_z23 hB.size
  have d_y23_q2 := own_ne_box o_y23 (lt_of_block h_q2)
  have d_y23_q4 := own_ne_box o_y23 (lt_of_block h_q4)
  have m_x7_y23 := own_ne_row o_x7 o_y23 (Nat.le_refl _)
  replace o_y23 := own_base (base := w.heap.size) o_y23 hB.size
  replace h_q2 := keep_below h_q2 hb23
  replace h_q4 := keep_below h_q4 hb23
  replace o_x7 := own_below o_x7 hb23
  replace o_x11 := own_below o_x11 hb23
  replace o_x15 := own_below o_x15 hb23
  replace o_x19 := own_below o_x19 hb23
  replace hB := hB.trans (hb23.mono hB.size)
  clear hb23
  intro a21 p21
  refine q_v p21.s rfl rfl rfl (g_field (r := 6) rfl (p21.k (p20.k (p19.k s1 rfl) rfl) rfl) Try.underlying32 rfl (fun w => Try.sizeOf30 w) rfl rfl ?_)
  intro a22 p22
  refine q_eff rfl rfl ?_
  refine g_storeP (new := #[.int .i64 b.clk, .slice A7 b.ps.length c7, .bool b.safe, .slice A11 b.ls.length c11, .slice A15 b.os.length c15, .slice A19 b.ds.length c19, .int .i64 b.room, .slice A23 b.rs.length c23, .slice B23 b.xs.length d23, .int .i64 b.made, .int .i64 b.taken, .slice qA b.qs.length qc]) rfl p22.v (p22.k p21.v rfl) Try.sizeOf30 rfl rfl h_q2 (Nat.le_of_ble_eq_true rfl) rfl ?_
  intro w25 W_w25
  replace h_q2 := W_w25.here
  replace h_q4 := keep_wrote h_q4 W_w25 n_q2_q4
  replace o_x7 := own_wrote o_x7 W_w25 d_x7_q2
  replace o_x11 := own_wrote o_x11 W_w25 d_x11_q2
  replace o_x15 := own_wrote o_x15 W_w25 d_x15_q2
  replace o_x19 := own_wrote o_x19 W_w25 d_x19_q2
  replace o_z23 := own_wrote o_z23 W_w25 d_z23_q2
  replace o_y23 := own_wrote o_y23 W_w25 d_y23_q2
  replace hB := below_wrote hB hB.size W_w25 g_q2.le
  clear W_w25
  refine wpList_nil ?_
  have kc18 := ((((Kps.nil a18).u p19).u p20).u p21).u p22
  replace s1 := kc18.k s1 rfl
  replace s2 := kc18.k s2 rfl
  clear kc18
  refine hK22 _ _ ?_
  clear hK22
  refine wp_seq_k fun K26 hK26 => ?_
  refine wp_region_lit ?_
  refine q_v p22.s rfl rfl rfl (g_field (r := 11) rfl s1 Try.underlying32 rfl (fun w => Try.sizeOf24 w) rfl rfl ?_)
  intro a23 p23
  refine q_v p23.s rfl rfl rfl (g_load rfl p23.v Try.isAgg24 (box_cell h_q2 rfl) ?_)
  intro a24 p24
  refine q_v p24.s rfl rfl rfl ?_
  refine g_call rfl rfl Try.call84 (arr1 p24.v) ?_
  refine (cloneI_any _ _ _ b.qs _ rfl (by omega) (hr_q.below hB)).mono ?_
  rintro e w28 ⟨A27, c27, rfl, o_x27, hb27⟩
  refine ⟨_, rfl, ?_⟩
  have d_x27_q2 := own_ne_box o_x27 (lt_of_block h_q2)
  have d_x27_q4 := own_ne_box o_x27 (lt_of_block h_q4)
  have m_x7_x27 := own_ne_row o_x7 o_x27 (Nat.le_refl _)
  have m_y23_x27 := own_ne_row o_y23 o_x27 (Nat.le_refl _)
  replace o_x27 := own_base (base := w.heap.size) o_x27 hB.size
  replace h_q2 := keep_below h_q2 hb27
  replace h_q4 := keep_below h_q4 hb27
  replace o_x7 := own_below o_x7 hb27
  replace o_x11 := own_below o_x11 hb27
  replace o_x15 := own_below o_x15 hb27
  replace o_x19 := own_below o_x19 hb27
  replace o_z23 := own_below o_z23 hb27
  replace o_y23 := own_below o_y23 hb27
  replace hB := hB.trans (hb27.mono hB.size)
  clear hb27
  intro a25 p25
  refine q_v p25.s rfl rfl rfl (g_field (r := 11) rfl (p25.k (p24.k (p23.k s1 rfl) rfl) rfl) Try.underlying32 rfl (fun w => Try.sizeOf24 w) rfl rfl ?_)
  intro a26 p26
  refine q_eff rfl rfl ?_
  refine g_store (cs' := #[.int .i64 b.clk, .slice A7 b.ps.length c7, .bool b.safe, .slice A11 b.ls.length c11, .slice A15 b.os.length c15, .slice A19 b.ds.length c19, .int .i64 b.room, .slice A23 b.rs.length c23, .slice B23 b.xs.length d23, .int .i64 b.made, .int .i64 b.taken, .slice A27 b.qs.length c27]) rfl p26.v (p26.k p25.v rfl) Try.sizeOf24 rfl h_q2 (Nat.le_of_ble_eq_true rfl) rfl ?_
  intro w29 W_w29
  replace h_q2 := W_w29.here
  replace h_q4 := keep_wrote h_q4 W_w29 n_q2_q4
  replace o_x7 := own_wrote o_x7 W_w29 d_x7_q2
  replace o_x11 := own_wrote o_x11 W_w29 d_x11_q2
  replace o_x15 := own_wrote o_x15 W_w29 d_x15_q2
  replace o_x19 := own_wrote o_x19 W_w29 d_x19_q2
  replace o_z23 := own_wrote o_z23 W_w29 d_z23_q2
  replace o_y23 := own_wrote o_y23 W_w29 d_y23_q2
  replace o_x27 := own_wrote o_x27 W_w29 d_x27_q2
  replace hB := below_wrote hB hB.size W_w29 g_q2.le
  clear W_w29
  refine wpList_nil ?_
  have kc22 := ((((Kps.nil a22).u p23).u p24).u p25).u p26
  replace s1 := kc22.k s1 rfl
  replace s2 := kc22.k s2 rfl
  clear kc22
  refine hK26 _ _ ?_
  clear hK26
  refine wp_seq_k fun K30 hK30 => ?_
  refine wp_region_lit ?_
  refine q_v p26.s rfl rfl rfl (g_loadB rfl s1 Try.isAgg32 Try.sizeOf32 rfl h_q2 ?_)
  intro a27 p27
  refine q_eff rfl rfl ?_
  refine g_storeB rfl (p27.k s2 rfl) p27.v Try.sizeOf32 rfl rfl h_q4 rfl ?_
  intro w31 W_w31
  replace h_q4 := W_w31.here
  replace o_x7 := own_wrote o_x7 W_w31 d_x7_q4
  replace o_x11 := own_wrote o_x11 W_w31 d_x11_q4
  replace o_x15 := own_wrote o_x15 W_w31 d_x15_q4
  replace o_x19 := own_wrote o_x19 W_w31 d_x19_q4
  replace o_z23 := own_wrote o_z23 W_w31 d_z23_q4
  replace o_y23 := own_wrote o_y23 W_w31 d_y23_q4
  replace o_x27 := own_wrote o_x27 W_w31 d_x27_q4
  replace hB := below_wrote hB hB.size W_w31 g_q4.le
  clear W_w31
  refine wpList_nil ?_
  replace s2 := p27.k s2 rfl
  refine hK30 _ _ ?_
  clear hK30
  refine wp_ret ?_
  try dsimp only [Exit.then, Exit.inBlock]
  refine ret1 p27.s Try.results41 (res_cell s2 h_q4 Try.isAgg32 Try.sizeOf32 rfl) ?_
  exact ⟨⟨⟨A7, b.ps.length, c7⟩, ⟨A11, b.ls.length, c11⟩, ⟨A15, b.os.length, c15⟩, ⟨A19, b.ds.length, c19⟩, ⟨A23, b.rs.length, c23⟩, ⟨B23, b.xs.length, d23⟩, ⟨A27, b.qs.length, c27⟩⟩, rfl, ⟨o_x7, o_x11, o_x15, o_x19, o_z23, o_y23, o_x27, m_x7_y23, m_x7_x27, m_y23_x27⟩, hB⟩
set_option maxRecDepth 100000 in
set_option maxHeartbeats 4000000 in
theorem copyBoard_any {S : BSl} {b : EBoard} (w : World) (hR : RdB w S b) (hW : BdW b) :
    Calls Try.prog 80 #[bdV S b] w fun e w' => ∃ S', e = .returned (bdV S' b) ∧ OwnB w' w.heap.size S' b ∧ Below w.heap.size w w' := by
  obtain ⟨⟨pA, pn, pc⟩, ⟨lA, ln, lc⟩, ⟨oA, on, oc⟩, ⟨dA, dn, dc⟩, ⟨rA, rn, rc⟩, ⟨xA, xn, xc⟩, ⟨qA, qn, qc⟩⟩ := S
  obtain ⟨⟨hr_p, hl_p, hnn_p, hnc_p⟩, ⟨hr_l, hl_l, hnn_l, hnc_l⟩, ⟨hr_o, hl_o, hnn_o, hnc_o⟩, ⟨hr_d, hl_d, hnn_d, hnc_d⟩, ⟨hr_r, hl_r, hnn_r, hnc_r⟩, ⟨hr_x, hl_x, hnn_x, hnc_x⟩, ⟨hr_q, hl_q, hnn_q, hnc_q⟩⟩ := hR
  change b.ps.length = pn at hl_p
  subst pn
  change Rd _ 1 pA b.ps.length (b.ps.flatMap cI) at hr_p
  change pA = none → b.ps.length = 0 ∧ pc = 0 at hnn_p
  change b.ps.length ≤ pc at hnc_p
  change b.ls.length = ln at hl_l
  subst ln
  change Rd _ 3 lA b.ls.length (b.ls.flatMap cLimit) at hr_l
  change lA = none → b.ls.length = 0 ∧ lc = 0 at hnn_l
  change b.ls.length ≤ lc at hnc_l
  change b.os.length = on at hl_o
  subst on
  change Rd _ 5 oA b.os.length (b.os.flatMap cWaiting) at hr_o
  change oA = none → b.os.length = 0 ∧ oc = 0 at hnn_o
  change b.os.length ≤ oc at hnc_o
  change b.ds.length = dn at hl_d
  subst dn
  change Rd _ 3 dA b.ds.length (b.ds.flatMap cDone) at hr_d
  change dA = none → b.ds.length = 0 ∧ dc = 0 at hnn_d
  change b.ds.length ≤ dc at hnc_d
  change b.rs.length = rn at hl_r
  subst rn
  change Rd _ 4 rA b.rs.length (b.rs.flatMap cRecord) at hr_r
  change rA = none → b.rs.length = 0 ∧ rc = 0 at hnn_r
  change b.rs.length ≤ rc at hnc_r
  change b.xs.length = xn at hl_x
  subst xn
  change Rd _ 1 xA b.xs.length (b.xs.flatMap cI) at hr_x
  change xA = none → b.xs.length = 0 ∧ xc = 0 at hnn_x
  change b.xs.length ≤ xc at hnc_x
  change b.qs.length = qn at hl_q
  subst qn
  change Rd _ 1 qA b.qs.length (b.qs.flatMap cI) at hr_q
  change qA = none → b.qs.length = 0 ∧ qc = 0 at hnn_q
  change b.qs.length ≤ qc at hnc_q
  have hW1 := hW.ps
  have hW2 := hW.ls
  have hW3 := hW.os
  have hW4 := hW.ds
  have hW5 := hW.rs
  have hW6 := hW.xs
  have hW7 := hW.qs
  refine enter 35 Try.func80 rfl rfl (Nat.le_of_ble_eq_true rfl) ?_
  intro a0 hs hargs
  have s0 : a0.eval (.tmp 0) = .agg #[.int .i64 b.clk, .slice pA b.ps.length pc, .bool b.safe, .slice lA b.ls.length lc, .slice oA b.os.length oc, .slice dA b.ds.length dc, .int .i64 b.room, .slice rA b.rs.length rc, .slice xA b.xs.length xc, .int .i64 b.made, .int .i64 b.taken, .slice qA b.qs.length qc] := hargs 0 _ rfl
  clear hargs
  have hB : Below w.heap.size w w := Below.refl _ _
  refine wp_seq_k fun K1 hK1 => ?_
  refine wp_region_lit ?_
  refine q_v hs rfl rfl rfl ?_
  refine g_box rfl s0 rfl ?_
  intro q2 w3 N_q2
  replace hB := below_new hB hB.size N_q2
  have h_q2 := N_q2.here
  clear N_q2
  intro a1 p1
  refine q_v p1.s rfl rfl rfl ?_
  refine g_alloc rfl Try.zeroValue32 rfl ?_
  intro q4 w5 N_q4
  have g_q4 : GeB w.heap.size q4 := ⟨Nat.le_trans hB.size N_q4.lo⟩
  replace h_q2 := keep_below h_q2 N_q4.below
  replace hB := below_new hB hB.size N_q4
  have h_q4 := N_q4.here
  clear N_q4
  intro a2 p2
  refine wpList_nil ?_
  replace s1 := p2.k p1.v rfl
  replace s2 := p2.v
  refine hK1 _ _ ?_
  clear hK1
  refine wp_seq_k fun K6 hK6 => ?_
  refine wp_region_lit ?_
  refine q_v p2.s rfl rfl rfl (g_loadB rfl s1 Try.isAgg32 Try.sizeOf32 rfl h_q2 ?_)
  intro a3 p3
  refine q_v p3.s rfl rfl rfl ?_
  refine g_alloc rfl Try.zeroValue32 rfl ?_
  intro q7 w8 N_q7
  have n_q2_q7 := N_q7.ne ⟨lt_of_block h_q2⟩
  have n_q7_q2 := n_q2_q7.symm
  have n_q4_q7 := N_q7.ne ⟨lt_of_block h_q4⟩
  have n_q7_q4 := n_q4_q7.symm
  have g_q7 : GeB w.heap.size q7 := ⟨Nat.le_trans hB.size N_q7.lo⟩
  replace h_q2 := keep_below h_q2 N_q7.below
  replace h_q4 := keep_below h_q4 N_q7.below
  replace hB := below_new hB hB.size N_q7
  have h_q7 := N_q7.here
  clear N_q7
  intro a4 p4
  refine q_eff rfl rfl ?_
  refine g_storeB rfl p4.v (p4.k p3.v rfl) Try.sizeOf32 rfl rfl h_q7 rfl ?_
  intro w9 W_w9
  replace h_q2 := keep_wrote h_q2 W_w9 n_q7_q2
  replace h_q4 := keep_wrote h_q4 W_w9 n_q7_q4
  replace h_q7 := W_w9.here
  replace hB := below_wrote hB hB.size W_w9 g_q7.le
  clear W_w9
  refine wpList_nil ?_
  replace s1 := p4.k (p3.k s1 rfl) rfl
  replace s2 := p4.k (p3.k s2 rfl) rfl
  replace s3 := p4.v
  refine hK6 _ _ ?_
  clear hK6
  refine wp_seq_k fun K10 hK10 => ?_
  refine wp_region_lit ?_
  refine q_v p4.s rfl rfl rfl ?_
  refine g_bslice0 rfl Try.underlying24 Try.sizeOf3 ?_
  intro q11 w12 N_q11
  have n_q2_q11 := N_q11.ne ⟨lt_of_block h_q2⟩
  have n_q11_q2 := n_q2_q11.symm
  have n_q4_q11 := N_q11.ne ⟨lt_of_block h_q4⟩
  have n_q11_q4 := n_q4_q11.symm
  have n_q7_q11 := N_q11.ne ⟨lt_of_block h_q7⟩
  have n_q11_q7 := n_q7_q11.symm
  have g_q11 : GeB w.heap.size q11 := ⟨Nat.le_trans hB.size N_q11.lo⟩
  replace h_q2 := keep_below h_q2 N_q11.below
  replace h_q4 := keep_below h_q4 N_q11.below
  replace h_q7 := keep_below h_q7 N_q11.below
  replace hB := below_new hB hB.size N_q11
  have h_q11 := N_q11.here
  clear N_q11
  intro a5 p5
  refine q_v p5.s rfl rfl rfl (g_field (r := 1) rfl (p5.k s1 rfl) Try.underlying32 rfl (fun w => Try.sizeOf24 w) rfl rfl ?_)
  intro a6 p6
  refine q_v p6.s rfl rfl rfl (g_load rfl p6.v Try.isAgg24 (box_cell h_q2 rfl) ?_)
  intro a7 p7
  refine q_v p7.s rfl rfl rfl ?_
  refine g_append (n' := b.ps.length) (ys := (b.ps).flatMap cI) w.heap.size (.int .i64 0) 1 8 rfl (p7.k (p6.k p5.v rfl) rfl) p7.v Try.underlying24 infoI64 rfl (by decide) (own_box_row (base := w.heap.size) (xs := ([]).flatMap cI) h_q11 g_q11.le rfl (by decide) rfl) hnn_p (hr_p.below hB) (flatI_one _) (by omega) hB.size (by decide) (by omega) (by first | rfl | simp [List.flatMap_append] | (simp [List.flatMap_append, cI]; done)) ?_
  intro A_r13 c_r13 w14 P_r13
  have d_r13_q4 := P_r13.ne (neb_map n_q11_q4) (lt_of_block h_q4)
  have d_r13_q7 := P_r13.ne (neb_map n_q11_q7) (lt_of_block h_q7)
  replace h_q2 := keep_grown h_q2 P_r13.grown (neb_map n_q11_q2)
  replace h_q4 := keep_grown h_q4 P_r13.grown (neb_map n_q11_q4)
  replace h_q7 := keep_grown h_q7 P_r13.grown (neb_map n_q11_q7)
  replace hB := below_grown hB hB.size P_r13.grown (ge_box g_q11.le)
  have o_r13 := P_r13.own
  clear P_r13
  intro a8 p8
  refine q_v p8.s rfl rfl rfl (g_field (r := 1) rfl (p8.k (p7.k (p6.k (p5.k s3 rfl) rfl) rfl) rfl) Try.underlying32 rfl (fun w => Try.sizeOf24 w) rfl rfl ?_)
  intro a9 p9
  refine q_eff rfl rfl ?_
  refine g_store (cs' := #[.int .i64 b.clk, .slice A_r13 b.ps.length c_r13, .bool b.safe, .slice lA b.ls.length lc, .slice oA b.os.length oc, .slice dA b.ds.length dc, .int .i64 b.room, .slice rA b.rs.length rc, .slice xA b.xs.length xc, .int .i64 b.made, .int .i64 b.taken, .slice qA b.qs.length qc]) rfl p9.v (p9.k p8.v rfl) Try.sizeOf24 rfl h_q7 (Nat.le_of_ble_eq_true rfl) rfl ?_
  intro w15 W_w15
  replace h_q2 := keep_wrote h_q2 W_w15 n_q7_q2
  replace h_q4 := keep_wrote h_q4 W_w15 n_q7_q4
  replace h_q7 := W_w15.here
  replace o_r13 := own_wrote o_r13 W_w15 d_r13_q7
  replace hB := below_wrote hB hB.size W_w15 g_q7.le
  clear W_w15
  refine wpList_nil ?_
  have kc4 := (((((Kps.nil a4).u p5).u p6).u p7).u p8).u p9
  replace s1 := kc4.k s1 rfl
  replace s2 := kc4.k s2 rfl
  replace s3 := kc4.k s3 rfl
  clear kc4
  refine hK10 _ _ ?_
  clear hK10
  refine wp_seq_k fun K16 hK16 => ?_
  refine wp_region_lit ?_
  refine q_v p9.s rfl rfl rfl ?_
  refine g_bslice0 rfl Try.underlying25 Try.sizeOf36 ?_
  intro q17 w18 N_q17
  have n_q2_q17 := N_q17.ne ⟨lt_of_block h_q2⟩
  have n_q17_q2 := n_q2_q17.symm
  have n_q4_q17 := N_q17.ne ⟨lt_of_block h_q4⟩
  have n_q17_q4 := n_q4_q17.symm
  have n_q7_q17 := N_q17.ne ⟨lt_of_block h_q7⟩
  have n_q17_q7 := n_q7_q17.symm
  have d_r13_q17 := own_ne_new o_r13 N_q17
  have g_q17 : GeB w.heap.size q17 := ⟨Nat.le_trans hB.size N_q17.lo⟩
  replace h_q2 := keep_below h_q2 N_q17.below
  replace h_q4 := keep_below h_q4 N_q17.below
  replace h_q7 := keep_below h_q7 N_q17.below
  replace o_r13 := own_below o_r13 N_q17.below
  replace hB := below_new hB hB.size N_q17
  have h_q17 := N_q17.here
  clear N_q17
  intro a10 p10
  refine q_v p10.s rfl rfl rfl (g_field (r := 3) rfl (p10.k s1 rfl) Try.underlying32 rfl (fun w => Try.sizeOf25 w) rfl rfl ?_)
  intro a11 p11
  refine q_v p11.s rfl rfl rfl (g_load rfl p11.v Try.isAgg25 (box_cell h_q2 rfl) ?_)
  intro a12 p12
  refine q_v p12.s rfl rfl rfl ?_
  refine g_append (n' := b.ls.length) (ys := (b.ls).flatMap cLimit) w.heap.size (.agg #[.int .i64 0, .int .i64 0, .int .i64 0]) 3 24 rfl (p12.k (p11.k p10.v rfl) rfl) p12.v Try.underlying25 infoLimit rfl (by decide) (own_box_row (base := w.heap.size) (xs := ([]).flatMap cLimit) h_q17 g_q17.le rfl (by decide) rfl) hnn_l (hr_l.below hB) (flatLimit_one _) (by omega) hB.size (by decide) (by omega) (by first | rfl | simp [List.flatMap_append] | (simp [List.flatMap_append, cLimit]; done)) ?_
  intro A_r19 c_r19 w20 P_r19
  have d_r19_q4 := P_r19.ne (neb_map n_q17_q4) (lt_of_block h_q4)
  have d_r19_q7 := P_r19.ne (neb_map n_q17_q7) (lt_of_block h_q7)
  replace h_q2 := keep_grown h_q2 P_r19.grown (neb_map n_q17_q2)
  replace h_q4 := keep_grown h_q4 P_r19.grown (neb_map n_q17_q4)
  replace h_q7 := keep_grown h_q7 P_r19.grown (neb_map n_q17_q7)
  replace o_r13 := own_grown o_r13 P_r19.grown (row_ne_box d_r13_q17)
  replace hB := below_grown hB hB.size P_r19.grown (ge_box g_q17.le)
  have o_r19 := P_r19.own
  clear P_r19
  intro a13 p13
  refine q_v p13.s rfl rfl rfl (g_field (r := 3) rfl (p13.k (p12.k (p11.k (p10.k s3 rfl) rfl) rfl) rfl) Try.underlying32 rfl (fun w => Try.sizeOf25 w) rfl rfl ?_)
  intro a14 p14
  refine q_eff rfl rfl ?_
  refine g_store (cs' := #[.int .i64 b.clk, .slice A_r13 b.ps.length c_r13, .bool b.safe, .slice A_r19 b.ls.length c_r19, .slice oA b.os.length oc, .slice dA b.ds.length dc, .int .i64 b.room, .slice rA b.rs.length rc, .slice xA b.xs.length xc, .int .i64 b.made, .int .i64 b.taken, .slice qA b.qs.length qc]) rfl p14.v (p14.k p13.v rfl) Try.sizeOf25 rfl h_q7 (Nat.le_of_ble_eq_true rfl) rfl ?_
  intro w21 W_w21
  replace h_q2 := keep_wrote h_q2 W_w21 n_q7_q2
  replace h_q4 := keep_wrote h_q4 W_w21 n_q7_q4
  replace h_q7 := W_w21.here
  replace o_r13 := own_wrote o_r13 W_w21 d_r13_q7
  replace o_r19 := own_wrote o_r19 W_w21 d_r19_q7
  replace hB := below_wrote hB hB.size W_w21 g_q7.le
  clear W_w21
  refine wpList_nil ?_
  have kc9 := (((((Kps.nil a9).u p10).u p11).u p12).u p13).u p14
  replace s1 := kc9.k s1 rfl
  replace s2 := kc9.k s2 rfl
  replace s3 := kc9.k s3 rfl
  clear kc9
  refine hK16 _ _ ?_
  clear hK16
  refine wp_seq_k fun K22 hK22 => ?_
  refine wp_region_lit ?_
  refine q_v p14.s rfl rfl rfl ?_
  refine g_bslice0 rfl Try.underlying26 Try.sizeOf45 ?_
  intro q23 w24 N_q23
  have n_q2_q23 := N_q23.ne ⟨lt_of_block h_q2⟩
  have n_q23_q2 := n_q2_q23.symm
  have n_q4_q23 := N_q23.ne ⟨lt_of_block h_q4⟩
  have n_q23_q4 := n_q4_q23.symm
  have n_q7_q23 := N_q23.ne ⟨lt_of_block h_q7⟩
  have n_q23_q7 := n_q7_q23.symm
  have d_r13_q23 := own_ne_new o_r13 N_q23
  have d_r19_q23 := own_ne_new o_r19 N_q23
  have g_q23 : GeB w.heap.size q23 := ⟨Nat.le_trans hB.size N_q23.lo⟩
  replace h_q2 := keep_below h_q2 N_q23.below
  replace h_q4 := keep_below h_q4 N_q23.below
  replace h_q7 := keep_below h_q7 N_q23.below
  replace o_r13 := own_below o_r13 N_q23.below
  replace o_r19 := own_below o_r19 N_q23.below
  replace hB := below_new hB hB.size N_q23
  have h_q23 := N_q23.here
  clear N_q23
  intro a15 p15
  refine q_v p15.s rfl rfl rfl (g_field (r := 4) rfl (p15.k s1 rfl) Try.underlying32 rfl (fun w => Try.sizeOf26 w) rfl rfl ?_)
  intro a16 p16
  refine q_v p16.s rfl rfl rfl (g_load rfl p16.v Try.isAgg26 (box_cell h_q2 rfl) ?_)
  intro a17 p17
  refine q_v p17.s rfl rfl rfl ?_
  refine g_append (n' := b.os.length) (ys := (b.os).flatMap cWaiting) w.heap.size (.agg #[.int .i64 0, .int .i64 0, .int .i64 0, .int .i64 0, .int .i64 0]) 5 40 rfl (p17.k (p16.k p15.v rfl) rfl) p17.v Try.underlying26 infoWaiting rfl (by decide) (own_box_row (base := w.heap.size) (xs := ([]).flatMap cWaiting) h_q23 g_q23.le rfl (by decide) rfl) hnn_o (hr_o.below hB) (flatWaiting_one _) (by omega) hB.size (by decide) (by omega) (by first | rfl | simp [List.flatMap_append] | (simp [List.flatMap_append, cWaiting]; done)) ?_
  intro A_r25 c_r25 w26 P_r25
  have d_r25_q4 := P_r25.ne (neb_map n_q23_q4) (lt_of_block h_q4)
  have d_r25_q7 := P_r25.ne (neb_map n_q23_q7) (lt_of_block h_q7)
  replace h_q2 := keep_grown h_q2 P_r25.grown (neb_map n_q23_q2)
  replace h_q4 := keep_grown h_q4 P_r25.grown (neb_map n_q23_q4)
  replace h_q7 := keep_grown h_q7 P_r25.grown (neb_map n_q23_q7)
  replace o_r13 := own_grown o_r13 P_r25.grown (row_ne_box d_r13_q23)
  replace o_r19 := own_grown o_r19 P_r25.grown (row_ne_box d_r19_q23)
  replace hB := below_grown hB hB.size P_r25.grown (ge_box g_q23.le)
  have o_r25 := P_r25.own
  clear P_r25
  intro a18 p18
  refine q_v p18.s rfl rfl rfl (g_field (r := 4) rfl (p18.k (p17.k (p16.k (p15.k s3 rfl) rfl) rfl) rfl) Try.underlying32 rfl (fun w => Try.sizeOf26 w) rfl rfl ?_)
  intro a19 p19
  refine q_eff rfl rfl ?_
  refine g_store (cs' := #[.int .i64 b.clk, .slice A_r13 b.ps.length c_r13, .bool b.safe, .slice A_r19 b.ls.length c_r19, .slice A_r25 b.os.length c_r25, .slice dA b.ds.length dc, .int .i64 b.room, .slice rA b.rs.length rc, .slice xA b.xs.length xc, .int .i64 b.made, .int .i64 b.taken, .slice qA b.qs.length qc]) rfl p19.v (p19.k p18.v rfl) Try.sizeOf26 rfl h_q7 (Nat.le_of_ble_eq_true rfl) rfl ?_
  intro w27 W_w27
  replace h_q2 := keep_wrote h_q2 W_w27 n_q7_q2
  replace h_q4 := keep_wrote h_q4 W_w27 n_q7_q4
  replace h_q7 := W_w27.here
  replace o_r13 := own_wrote o_r13 W_w27 d_r13_q7
  replace o_r19 := own_wrote o_r19 W_w27 d_r19_q7
  replace o_r25 := own_wrote o_r25 W_w27 d_r25_q7
  replace hB := below_wrote hB hB.size W_w27 g_q7.le
  clear W_w27
  refine wpList_nil ?_
  have kc14 := (((((Kps.nil a14).u p15).u p16).u p17).u p18).u p19
  replace s1 := kc14.k s1 rfl
  replace s2 := kc14.k s2 rfl
  replace s3 := kc14.k s3 rfl
  clear kc14
  refine hK22 _ _ ?_
  clear hK22
  refine wp_seq_k fun K28 hK28 => ?_
  refine wp_region_lit ?_
  refine q_v p19.s rfl rfl rfl ?_
  refine g_bslice0 rfl Try.underlying27 Try.sizeOf51 ?_
  intro q29 w30 N_q29
  have n_q2_q29 := N_q29.ne ⟨lt_of_block h_q2⟩
  have n_q29_q2 := n_q2_q29.symm
  have n_q4_q29 := N_q29.ne ⟨lt_of_block h_q4⟩
  have n_q29_q4 := n_q4_q29.symm
  have n_q7_q29 := N_q29.ne ⟨lt_of_block h_q7⟩
  have n_q29_q7 := n_q7_q29.symm
  have d_r13_q29 := own_ne_new o_r13 N_q29
  have d_r19_q29 := own_ne_new o_r19 N_q29
  have d_r25_q29 := own_ne_new o_r25 N_q29
  have g_q29 : GeB w.heap.size q29 := ⟨Nat.le_trans hB.size N_q29.lo⟩
  replace h_q2 := keep_below h_q2 N_q29.below
  replace h_q4 := keep_below h_q4 N_q29.below
  replace h_q7 := keep_below h_q7 N_q29.below
  replace o_r13 := own_below o_r13 N_q29.below
  replace o_r19 := own_below o_r19 N_q29.below
  replace o_r25 := own_below o_r25 N_q29.below
  replace hB := below_new hB hB.size N_q29
  have h_q29 := N_q29.here
  clear N_q29
  intro a20 p20
  refine q_v p20.s rfl rfl rfl (g_field (r := 5) rfl (p20.k s1 rfl) Try.underlying32 rfl (fun w => Try.sizeOf27 w) rfl rfl ?_)
  intro a21 p21
  refine q_v p21.s rfl rfl rfl (g_load rfl p21.v Try.isAgg27 (box_cell h_q2 rfl) ?_)
  intro a22 p22
  refine q_v p22.s rfl rfl rfl ?_
  refine g_append (n' := b.ds.length) (ys := (b.ds).flatMap cDone) w.heap.size (.agg #[.int .i64 0, .int .i64 0, .int .i64 0]) 3 24 rfl (p22.k (p21.k p20.v rfl) rfl) p22.v Try.underlying27 infoDone rfl (by decide) (own_box_row (base := w.heap.size) (xs := ([]).flatMap cDone) h_q29 g_q29.le rfl (by decide) rfl) hnn_d (hr_d.below hB) (flatDone_one _) (by omega) hB.size (by decide) (by omega) (by first | rfl | simp [List.flatMap_append] | (simp [List.flatMap_append, cDone]; done)) ?_
  intro A_r31 c_r31 w32 P_r31
  have d_r31_q4 := P_r31.ne (neb_map n_q29_q4) (lt_of_block h_q4)
  have d_r31_q7 := P_r31.ne (neb_map n_q29_q7) (lt_of_block h_q7)
  replace h_q2 := keep_grown h_q2 P_r31.grown (neb_map n_q29_q2)
  replace h_q4 := keep_grown h_q4 P_r31.grown (neb_map n_q29_q4)
  replace h_q7 := keep_grown h_q7 P_r31.grown (neb_map n_q29_q7)
  replace o_r13 := own_grown o_r13 P_r31.grown (row_ne_box d_r13_q29)
  replace o_r19 := own_grown o_r19 P_r31.grown (row_ne_box d_r19_q29)
  replace o_r25 := own_grown o_r25 P_r31.grown (row_ne_box d_r25_q29)
  replace hB := below_grown hB hB.size P_r31.grown (ge_box g_q29.le)
  have o_r31 := P_r31.own
  clear P_r31
  intro a23 p23
  refine q_v p23.s rfl rfl rfl (g_field (r := 5) rfl (p23.k (p22.k (p21.k (p20.k s3 rfl) rfl) rfl) rfl) Try.underlying32 rfl (fun w => Try.sizeOf27 w) rfl rfl ?_)
  intro a24 p24
  refine q_eff rfl rfl ?_
  refine g_store (cs' := #[.int .i64 b.clk, .slice A_r13 b.ps.length c_r13, .bool b.safe, .slice A_r19 b.ls.length c_r19, .slice A_r25 b.os.length c_r25, .slice A_r31 b.ds.length c_r31, .int .i64 b.room, .slice rA b.rs.length rc, .slice xA b.xs.length xc, .int .i64 b.made, .int .i64 b.taken, .slice qA b.qs.length qc]) rfl p24.v (p24.k p23.v rfl) Try.sizeOf27 rfl h_q7 (Nat.le_of_ble_eq_true rfl) rfl ?_
  intro w33 W_w33
  replace h_q2 := keep_wrote h_q2 W_w33 n_q7_q2
  replace h_q4 := keep_wrote h_q4 W_w33 n_q7_q4
  replace h_q7 := W_w33.here
  replace o_r13 := own_wrote o_r13 W_w33 d_r13_q7
  replace o_r19 := own_wrote o_r19 W_w33 d_r19_q7
  replace o_r25 := own_wrote o_r25 W_w33 d_r25_q7
  replace o_r31 := own_wrote o_r31 W_w33 d_r31_q7
  replace hB := below_wrote hB hB.size W_w33 g_q7.le
  clear W_w33
  refine wpList_nil ?_
  have kc19 := (((((Kps.nil a19).u p20).u p21).u p22).u p23).u p24
  replace s1 := kc19.k s1 rfl
  replace s2 := kc19.k s2 rfl
  replace s3 := kc19.k s3 rfl
  clear kc19
  refine hK28 _ _ ?_
  clear hK28
  refine wp_seq_k fun K34 hK34 => ?_
  refine wp_region_lit ?_
  refine q_v p24.s rfl rfl rfl (g_field (r := 6) rfl s1 Try.underlying32 rfl (fun w => Try.sizeOf30 w) rfl rfl ?_)
  intro a25 p25
  refine q_v p25.s rfl rfl rfl (g_loadA (l := [.int .i64 b.room, .slice rA b.rs.length rc, .slice xA b.xs.length xc]) rfl p25.v Try.isAgg30 Try.sizeOf30 rfl (box_part h_q2 rfl) ?_)
  intro a26 p26
  refine q_v p26.s rfl rfl rfl ?_
  refine g_call rfl rfl Try.call106 (arr1 p26.v) ?_
  refine (copyRecorder_any _ _ _ _ _ _ _ b.rs b.xs _ rfl (by omega) hnn_r (hr_r.below hB) rfl (by omega) hnn_x (hr_x.below hB)).mono ?_
  rintro e w36 ⟨A35, c35, B35, d35, rfl, o_z35, o_y35, hb35⟩
  refine ⟨_, rfl, ?_⟩
  have d_z35_q4 := own_ne_box o_z35 (lt_of_block h_q4)
  have d_z35_q7 := own_ne_box o_z35 (lt_of_block h_q7)
  replace o_z35 := own_base (base := w.heap.size) o_z35 hB.size
  have d_y35_q4 := own_ne_box o_y35 (lt_of_block h_q4)
  have d_y35_q7 := own_ne_box o_y35 (lt_of_block h_q7)
  have m_r13_y35 := own_ne_row o_r13 o_y35 (Nat.le_refl _)
  replace o_y35 := own_base (base := w.heap.size) o_y35 hB.size
  replace h_q2 := keep_below h_q2 hb35
  replace h_q4 := keep_below h_q4 hb35
  replace h_q7 := keep_below h_q7 hb35
  replace o_r13 := own_below o_r13 hb35
  replace o_r19 := own_below o_r19 hb35
  replace o_r25 := own_below o_r25 hb35
  replace o_r31 := own_below o_r31 hb35
  replace hB := hB.trans (hb35.mono hB.size)
  clear hb35
  intro a27 p27
  refine q_v p27.s rfl rfl rfl (g_field (r := 6) rfl (p27.k (p26.k (p25.k s3 rfl) rfl) rfl) Try.underlying32 rfl (fun w => Try.sizeOf30 w) rfl rfl ?_)
  intro a28 p28
  refine q_eff rfl rfl ?_
  refine g_storeP (new := #[.int .i64 b.clk, .slice A_r13 b.ps.length c_r13, .bool b.safe, .slice A_r19 b.ls.length c_r19, .slice A_r25 b.os.length c_r25, .slice A_r31 b.ds.length c_r31, .int .i64 b.room, .slice A35 b.rs.length c35, .slice B35 b.xs.length d35, .int .i64 b.made, .int .i64 b.taken, .slice qA b.qs.length qc]) rfl p28.v (p28.k p27.v rfl) Try.sizeOf30 rfl rfl h_q7 (Nat.le_of_ble_eq_true rfl) rfl ?_
  intro w37 W_w37
  replace h_q2 := keep_wrote h_q2 W_w37 n_q7_q2
  replace h_q4 := keep_wrote h_q4 W_w37 n_q7_q4
  replace h_q7 := W_w37.here
  replace o_r13 := own_wrote o_r13 W_w37 d_r13_q7
  replace o_r19 := own_wrote o_r19 W_w37 d_r19_q7
  replace o_r25 := own_wrote o_r25 W_w37 d_r25_q7
  replace o_r31 := own_wrote o_r31 W_w37 d_r31_q7
  replace o_z35 := own_wrote o_z35 W_w37 d_z35_q7
  replace o_y35 := own_wrote o_y35 W_w37 d_y35_q7
  replace hB := below_wrote hB hB.size W_w37 g_q7.le
  clear W_w37
  refine wpList_nil ?_
  have kc24 := ((((Kps.nil a24).u p25).u p26).u p27).u p28
  replace s1 := kc24.k s1 rfl
  replace s2 := kc24.k s2 rfl
  replace s3 := kc24.k s3 rfl
  clear kc24
  refine hK34 _ _ ?_
  clear hK34
  refine wp_seq_k fun K38 hK38 => ?_
  refine wp_region_lit ?_
  refine q_v p28.s rfl rfl rfl ?_
  refine g_bslice0 rfl Try.underlying24 Try.sizeOf3 ?_
  intro q39 w40 N_q39
  have n_q4_q39 := N_q39.ne ⟨lt_of_block h_q4⟩
  have n_q39_q4 := n_q4_q39.symm
  have n_q7_q39 := N_q39.ne ⟨lt_of_block h_q7⟩
  have n_q39_q7 := n_q7_q39.symm
  have d_r13_q39 := own_ne_new o_r13 N_q39
  have d_r19_q39 := own_ne_new o_r19 N_q39
  have d_r25_q39 := own_ne_new o_r25 N_q39
  have d_r31_q39 := own_ne_new o_r31 N_q39
  have d_z35_q39 := own_ne_new o_z35 N_q39
  have d_y35_q39 := own_ne_new o_y35 N_q39
  have g_q39 : GeB w.heap.size q39 := ⟨Nat.le_trans hB.size N_q39.lo⟩
  replace h_q2 := keep_below h_q2 N_q39.below
  replace h_q4 := keep_below h_q4 N_q39.below
  replace h_q7 := keep_below h_q7 N_q39.below
  replace o_r13 := own_below o_r13 N_q39.below
  replace o_r19 := own_below o_r19 N_q39.below
  replace o_r25 := own_below o_r25 N_q39.below
  replace o_r31 := own_below o_r31 N_q39.below
  replace o_z35 := own_below o_z35 N_q39.below
  replace o_y35 := own_below o_y35 N_q39.below
  replace hB := below_new hB hB.size N_q39
  have h_q39 := N_q39.here
  clear N_q39
  intro a29 p29
  refine q_v p29.s rfl rfl rfl (g_field (r := 11) rfl (p29.k s1 rfl) Try.underlying32 rfl (fun w => Try.sizeOf24 w) rfl rfl ?_)
  intro a30 p30
  refine q_v p30.s rfl rfl rfl (g_load rfl p30.v Try.isAgg24 (box_cell h_q2 rfl) ?_)
  intro a31 p31
  refine q_v p31.s rfl rfl rfl ?_
  refine g_append (n' := b.qs.length) (ys := (b.qs).flatMap cI) w.heap.size (.int .i64 0) 1 8 rfl (p31.k (p30.k p29.v rfl) rfl) p31.v Try.underlying24 infoI64 rfl (by decide) (own_box_row (base := w.heap.size) (xs := ([]).flatMap cI) h_q39 g_q39.le rfl (by decide) rfl) hnn_q (hr_q.below hB) (flatI_one _) (by omega) hB.size (by decide) (by omega) (by first | rfl | simp [List.flatMap_append] | (simp [List.flatMap_append, cI]; done)) ?_
  intro A_r41 c_r41 w42 P_r41
  have d_r41_q4 := P_r41.ne (neb_map n_q39_q4) (lt_of_block h_q4)
  have d_r41_q7 := P_r41.ne (neb_map n_q39_q7) (lt_of_block h_q7)
  have m_r13_r41 := P_r41.row (row_ne_box d_r13_q39) o_r13
  have m_y35_r41 := P_r41.row (row_ne_box d_y35_q39) o_y35
  replace h_q4 := keep_grown h_q4 P_r41.grown (neb_map n_q39_q4)
  replace h_q7 := keep_grown h_q7 P_r41.grown (neb_map n_q39_q7)
  replace o_r13 := own_grown o_r13 P_r41.grown (row_ne_box d_r13_q39)
  replace o_r19 := own_grown o_r19 P_r41.grown (row_ne_box d_r19_q39)
  replace o_r25 := own_grown o_r25 P_r41.grown (row_ne_box d_r25_q39)
  replace o_r31 := own_grown o_r31 P_r41.grown (row_ne_box d_r31_q39)
  replace o_z35 := own_grown o_z35 P_r41.grown (row_ne_box d_z35_q39)
  replace o_y35 := own_grown o_y35 P_r41.grown (row_ne_box d_y35_q39)
  replace hB := below_grown hB hB.size P_r41.grown (ge_box g_q39.le)
  have o_r41 := P_r41.own
  clear P_r41
  intro a32 p32
  refine q_v p32.s rfl rfl rfl (g_field (r := 11) rfl (p32.k (p31.k (p30.k (p29.k s3 rfl) rfl) rfl) rfl) Try.underlying32 rfl (fun w => Try.sizeOf24 w) rfl rfl ?_)
  intro a33 p33
  refine q_eff rfl rfl ?_
  refine g_store (cs' := #[.int .i64 b.clk, .slice A_r13 b.ps.length c_r13, .bool b.safe, .slice A_r19 b.ls.length c_r19, .slice A_r25 b.os.length c_r25, .slice A_r31 b.ds.length c_r31, .int .i64 b.room, .slice A35 b.rs.length c35, .slice B35 b.xs.length d35, .int .i64 b.made, .int .i64 b.taken, .slice A_r41 b.qs.length c_r41]) rfl p33.v (p33.k p32.v rfl) Try.sizeOf24 rfl h_q7 (Nat.le_of_ble_eq_true rfl) rfl ?_
  intro w43 W_w43
  replace h_q4 := keep_wrote h_q4 W_w43 n_q7_q4
  replace h_q7 := W_w43.here
  replace o_r13 := own_wrote o_r13 W_w43 d_r13_q7
  replace o_r19 := own_wrote o_r19 W_w43 d_r19_q7
  replace o_r25 := own_wrote o_r25 W_w43 d_r25_q7
  replace o_r31 := own_wrote o_r31 W_w43 d_r31_q7
  replace o_z35 := own_wrote o_z35 W_w43 d_z35_q7
  replace o_y35 := own_wrote o_y35 W_w43 d_y35_q7
  replace o_r41 := own_wrote o_r41 W_w43 d_r41_q7
  replace hB := below_wrote hB hB.size W_w43 g_q7.le
  clear W_w43
  refine wpList_nil ?_
  have kc28 := (((((Kps.nil a28).u p29).u p30).u p31).u p32).u p33
  replace s2 := kc28.k s2 rfl
  replace s3 := kc28.k s3 rfl
  clear kc28
  refine hK38 _ _ ?_
  clear hK38
  refine wp_seq_k fun K44 hK44 => ?_
  refine wp_region_lit ?_
  refine q_v p33.s rfl rfl rfl (g_loadB rfl s3 Try.isAgg32 Try.sizeOf32 rfl h_q7 ?_)
  intro a34 p34
  refine q_eff rfl rfl ?_
  refine g_storeB rfl (p34.k s2 rfl) p34.v Try.sizeOf32 rfl rfl h_q4 rfl ?_
  intro w45 W_w45
  replace h_q4 := W_w45.here
  replace o_r13 := own_wrote o_r13 W_w45 d_r13_q4
  replace o_r19 := own_wrote o_r19 W_w45 d_r19_q4
  replace o_r25 := own_wrote o_r25 W_w45 d_r25_q4
  replace o_r31 := own_wrote o_r31 W_w45 d_r31_q4
  replace o_z35 := own_wrote o_z35 W_w45 d_z35_q4
  replace o_y35 := own_wrote o_y35 W_w45 d_y35_q4
  replace o_r41 := own_wrote o_r41 W_w45 d_r41_q4
  replace hB := below_wrote hB hB.size W_w45 g_q4.le
  clear W_w45
  refine wpList_nil ?_
  replace s2 := p34.k s2 rfl
  refine hK44 _ _ ?_
  clear hK44
  refine wp_ret ?_
  try dsimp only [Exit.then, Exit.inBlock]
  refine ret1 p34.s Try.results80 (res_cell s2 h_q4 Try.isAgg32 Try.sizeOf32 rfl) ?_
  exact ⟨⟨⟨A_r13, b.ps.length, c_r13⟩, ⟨A_r19, b.ls.length, c_r19⟩, ⟨A_r25, b.os.length, c_r25⟩, ⟨A_r31, b.ds.length, c_r31⟩, ⟨A35, b.rs.length, c35⟩, ⟨B35, b.xs.length, d35⟩, ⟨A_r41, b.qs.length, c_r41⟩⟩, rfl, ⟨o_r13, o_r19, o_r25, o_r31, o_z35, o_y35, o_r41, m_r13_y35, m_r13_r41, m_y35_r41⟩, hB⟩
end Go.Proofs.Ytoccapmoehdohaa
