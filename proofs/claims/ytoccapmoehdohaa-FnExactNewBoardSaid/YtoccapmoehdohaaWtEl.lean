/- Contracts of the statements' helpers on one order and one waiting order; arguments of this kind opened. No condition. -/
import Derived.Test.YtoccapmoehdohaaOrdArg
import Derived.Test.YtoccapmoehdohaaFlow
import Derived.Test.YtoccapmoehdohaaFlowPart
namespace Go.Proofs.Ytoccapmoehdohaa
open Go.RowKit

set_option maxRecDepth 100000 in
set_option maxHeartbeats 4000000 in
theorem toOrder_any (a b c d : Int) (w : World) :
    Calls Try.prog 34 #[.agg #[.int .i64 a, .int .i64 b, .int .i64 c, .int .i64 d]] w fun e w' => e = .returned (.agg #[.int .i64 a, .int .i64 b, .int .i64 c, .int .i64 d]) ∧ Below w.heap.size w w' := by
  refine enter 17 Try.func34 rfl rfl (Nat.le_of_ble_eq_true rfl) ?_
  intro a0 hs hargs
  have s0 : a0.eval (.tmp 0) = .agg #[.int .i64 a, .int .i64 b, .int .i64 c, .int .i64 d] := hargs 0 _ rfl
  clear hargs
  have hB : Below w.heap.size w w := Below.refl _ _
  refine wp_seq_k fun K1 hK1 => ?_
  refine wp_region_lit ?_
  refine q_val rfl rfl ?_
  refine g_box rfl s0 rfl ?_
  intro q2 w3 N_q2
  have g_q2 : GeB w.heap.size q2 := ⟨Nat.le_trans hB.size N_q2.lo⟩
  replace hB := below_new hB hB.size N_q2
  have h_q2 := N_q2.here
  clear N_q2
  intro a1 p1
  have s1 : a1.eval (.tmp 1) = .pointer (some ⟨q2, 0, none⟩) := p1.at hs (by decide)
  replace hs := p1.st hs
  refine q_val rfl rfl ?_
  refine g_alloc rfl Try.zeroValue40 rfl ?_
  intro q4 w5 N_q4
  have n_q2_q4 := N_q4.ne ⟨lt_of_block h_q2⟩
  have n_q4_q2 := n_q2_q4.symm
  have g_q4 : GeB w.heap.size q4 := ⟨Nat.le_trans hB.size N_q4.lo⟩
  replace h_q2 := keep_below h_q2 N_q4.below
  replace hB := below_new hB hB.size N_q4
  have h_q4 := N_q4.here
  clear N_q4
  intro a2 p2
  have s2 : a2.eval (.tmp 2) = .pointer (some ⟨q4, 0, none⟩) := p2.at hs (by decide)
  replace hs := p2.st hs
  refine wpList_nil ?_
  replace s1 : a2.eval (.tmp 1) = .pointer (some ⟨q2, 0, none⟩) := (p2.ne rfl).trans s1
  refine hK1 _ _ ?_
  clear hK1
  refine wp_seq_k fun K6 hK6 => ?_
  refine wp_region_lit ?_
  refine q_val rfl rfl ?_
  refine g_alloc rfl Try.zeroValue40 rfl ?_
  intro q7 w8 N_q7
  have n_q2_q7 := N_q7.ne ⟨lt_of_block h_q2⟩
  have n_q7_q2 := n_q2_q7.symm
  have n_q4_q7 := N_q7.ne ⟨lt_of_block h_q4⟩
  have n_q7_q4 := n_q4_q7.symm
  have g_q7 : GeB w.heap.size q7 := ⟨Nat.le_trans hB.size N_q7.lo⟩
  replace h_q2 := keep_below h_q2 N_q7.below
  replace h_q4 := keep_below h_q4 N_q7.below
  replace hB := below_new hB hB.size N_q7
  have h_q7 := N_q7.here
  clear N_q7
  intro a3 p3
  have s3 : a3.eval (.tmp 3) = .pointer (some ⟨q7, 0, none⟩) := p3.at hs (by decide)
  replace hs := p3.st hs
  refine wpList_nil ?_
  replace s1 : a3.eval (.tmp 1) = .pointer (some ⟨q2, 0, none⟩) := (p3.ne rfl).trans s1
  replace s2 : a3.eval (.tmp 2) = .pointer (some ⟨q4, 0, none⟩) := (p3.ne rfl).trans s2
  refine hK6 _ _ ?_
  clear hK6
  refine wp_seq_k fun K9 hK9 => ?_
  refine wp_region_lit ?_
  refine q_val rfl rfl ?_
  refine g_field (r := 0) rfl s1 Try.underlying73 rfl (fun w => Try.sizeOf3 w) rfl rfl ?_
  intro a4 p4
  have s4 : a4.eval (.tmp 4) = .pointer (some ⟨q2, 0, none⟩) := p4.at hs (by decide)
  replace hs := p4.st hs
  refine q_val rfl rfl ?_
  refine g_load rfl s4 Try.isAgg3 (box_cell h_q2 rfl) ?_
  intro a5 p5
  have s5 : a5.eval (.tmp 5) = .int .i64 a := p5.at hs (by decide)
  replace hs := p5.st hs
  refine q_val rfl rfl ?_
  refine g_field (r := 0) rfl (((p5.ne rfl).trans (p4.ne rfl)).trans s3) Try.underlying40 rfl (fun w => Try.sizeOf3 w) rfl rfl ?_
  intro a6 p6
  have s6 : a6.eval (.tmp 6) = .pointer (some ⟨q7, 0, none⟩) := p6.at hs (by decide)
  replace hs := p6.st hs
  refine q_eff rfl rfl ?_
  refine g_store (cs' := #[.int .i64 a, .int .i64 0, .int .i64 0, .int .i64 0]) rfl s6 ((p6.ne rfl).trans s5) Try.sizeOf3 rfl h_q7 (Nat.le_of_ble_eq_true rfl) rfl ?_
  intro w10 W_w10
  replace h_q2 := keep_wrote h_q2 W_w10 n_q7_q2
  replace h_q4 := keep_wrote h_q4 W_w10 n_q7_q4
  replace h_q7 := W_w10.here
  replace hB := below_wrote hB hB.size W_w10 g_q7.le
  clear W_w10
  refine wpList_nil ?_
  replace s1 : a6.eval (.tmp 1) = .pointer (some ⟨q2, 0, none⟩) := ((p6.ne rfl).trans ((p5.ne rfl).trans (p4.ne rfl))).trans s1
  replace s2 : a6.eval (.tmp 2) = .pointer (some ⟨q4, 0, none⟩) := ((p6.ne rfl).trans ((p5.ne rfl).trans (p4.ne rfl))).trans s2
  replace s3 : a6.eval (.tmp 3) = .pointer (some ⟨q7, 0, none⟩) := ((p6.ne rfl).trans ((p5.ne rfl).trans (p4.ne rfl))).trans s3
  refine hK9 _ _ ?_
  clear hK9
  refine wp_seq_k fun K11 hK11 => ?_
  refine wp_region_lit ?_
  refine q_val rfl rfl ?_
  refine g_field (r := 1) rfl s1 Try.underlying73 rfl (fun w => Try.sizeOf3 w) rfl rfl ?_
  intro a7 p7
  have s7 : a7.eval (.tmp 7) = .pointer (some ⟨q2, 1, none⟩) := p7.at hs (by decide)
  replace hs := p7.st hs
  refine q_val rfl rfl ?_
  refine g_load rfl s7 Try.isAgg3 (box_cell h_q2 rfl) ?_
  intro a8 p8
  have s8 : a8.eval (.tmp 8) = .int .i64 b := p8.at hs (by decide)
  replace hs := p8.st hs
  refine q_val rfl rfl ?_
  refine g_field (r := 1) rfl (((p8.ne rfl).trans (p7.ne rfl)).trans s3) Try.underlying40 rfl (fun w => Try.sizeOf3 w) rfl rfl ?_
  intro a9 p9
  have s9 : a9.eval (.tmp 9) = .pointer (some ⟨q7, 1, none⟩) := p9.at hs (by decide)
  replace hs := p9.st hs
  refine q_eff rfl rfl ?_
  refine g_store (cs' := #[.int .i64 a, .int .i64 b, .int .i64 0, .int .i64 0]) rfl s9 ((p9.ne rfl).trans s8) Try.sizeOf3 rfl h_q7 (Nat.le_of_ble_eq_true rfl) rfl ?_
  intro w12 W_w12
  replace h_q2 := keep_wrote h_q2 W_w12 n_q7_q2
  replace h_q4 := keep_wrote h_q4 W_w12 n_q7_q4
  replace h_q7 := W_w12.here
  replace hB := below_wrote hB hB.size W_w12 g_q7.le
  clear W_w12
  refine wpList_nil ?_
  replace s1 : a9.eval (.tmp 1) = .pointer (some ⟨q2, 0, none⟩) := ((p9.ne rfl).trans ((p8.ne rfl).trans (p7.ne rfl))).trans s1
  replace s2 : a9.eval (.tmp 2) = .pointer (some ⟨q4, 0, none⟩) := ((p9.ne rfl).trans ((p8.ne rfl).trans (p7.ne rfl))).trans s2
  replace s3 : a9.eval (.tmp 3) = .pointer (some ⟨q7, 0, none⟩) := ((p9.ne rfl).trans ((p8.ne rfl).trans (p7.ne rfl))).trans s3
  refine hK11 _ _ ?_
  clear hK11
  refine wp_seq_k fun K13 hK13 => ?_
  refine wp_region_lit ?_
  refine q_val rfl rfl ?_
  refine g_field (r := 2) rfl s1 Try.underlying73 rfl (fun w => Try.sizeOf3 w) rfl rfl ?_
  intro a10 p10
  have s10 : a10.eval (.tmp 10) = .pointer (some ⟨q2, 2, none⟩) := p10.at hs (by decide)
  replace hs := p10.st hs
  refine q_val rfl rfl ?_
  refine g_load rfl s10 Try.isAgg3 (box_cell h_q2 rfl) ?_
  intro a11 p11
  have s11 : a11.eval (.tmp 11) = .int .i64 c := p11.at hs (by decide)
  replace hs := p11.st hs
  refine q_val rfl rfl ?_
  refine g_field (r := 2) rfl (((p11.ne rfl).trans (p10.ne rfl)).trans s3) Try.underlying40 rfl (fun w => Try.sizeOf3 w) rfl rfl ?_
  intro a12 p12
  have s12 : a12.eval (.tmp 12) = .pointer (some ⟨q7, 2, none⟩) := p12.at hs (by decide)
  replace hs := p12.st hs
  refine q_eff rfl rfl ?_
  refine g_store (cs' := #[.int .i64 a, .int .i64 b, .int .i64 c, .int .i64 0]) rfl s12 ((p12.ne rfl).trans s11) Try.sizeOf3 rfl h_q7 (Nat.le_of_ble_eq_true rfl) rfl ?_
  intro w14 W_w14
  replace h_q2 := keep_wrote h_q2 W_w14 n_q7_q2
  replace h_q4 := keep_wrote h_q4 W_w14 n_q7_q4
  replace h_q7 := W_w14.here
  replace hB := below_wrote hB hB.size W_w14 g_q7.le
  clear W_w14
  refine wpList_nil ?_
  replace s1 : a12.eval (.tmp 1) = .pointer (some ⟨q2, 0, none⟩) := ((p12.ne rfl).trans ((p11.ne rfl).trans (p10.ne rfl))).trans s1
  replace s2 : a12.eval (.tmp 2) = .pointer (some ⟨q4, 0, none⟩) := ((p12.ne rfl).trans ((p11.ne rfl).trans (p10.ne rfl))).trans s2
  replace s3 : a12.eval (.tmp 3) = .pointer (some ⟨q7, 0, none⟩) := ((p12.ne rfl).trans ((p11.ne rfl).trans (p10.ne rfl))).trans s3
  refine hK13 _ _ ?_
  clear hK13
  refine wp_seq_k fun K15 hK15 => ?_
  refine wp_region_lit ?_
  refine q_val rfl rfl ?_
  refine g_field (r := 3) rfl s1 Try.underlying73 rfl (fun w => Try.sizeOf3 w) rfl rfl ?_
  intro a13 p13
  have s13 : a13.eval (.tmp 13) = .pointer (some ⟨q2, 3, none⟩) := p13.at hs (by decide)
  replace hs := p13.st hs
  refine q_val rfl rfl ?_
  refine g_load rfl s13 Try.isAgg3 (box_cell h_q2 rfl) ?_
  intro a14 p14
  have s14 : a14.eval (.tmp 14) = .int .i64 d := p14.at hs (by decide)
  replace hs := p14.st hs
  refine q_val rfl rfl ?_
  refine g_field (r := 3) rfl (((p14.ne rfl).trans (p13.ne rfl)).trans s3) Try.underlying40 rfl (fun w => Try.sizeOf3 w) rfl rfl ?_
  intro a15 p15
  have s15 : a15.eval (.tmp 15) = .pointer (some ⟨q7, 3, none⟩) := p15.at hs (by decide)
  replace hs := p15.st hs
  refine q_eff rfl rfl ?_
  refine g_store (cs' := #[.int .i64 a, .int .i64 b, .int .i64 c, .int .i64 d]) rfl s15 ((p15.ne rfl).trans s14) Try.sizeOf3 rfl h_q7 (Nat.le_of_ble_eq_true rfl) rfl ?_
  intro w16 W_w16
  replace h_q2 := keep_wrote h_q2 W_w16 n_q7_q2
  replace h_q4 := keep_wrote h_q4 W_w16 n_q7_q4
  replace h_q7 := W_w16.here
  replace hB := below_wrote hB hB.size W_w16 g_q7.le
  clear W_w16
  refine wpList_nil ?_
  replace s2 : a15.eval (.tmp 2) = .pointer (some ⟨q4, 0, none⟩) := ((p15.ne rfl).trans ((p14.ne rfl).trans (p13.ne rfl))).trans s2
  replace s3 : a15.eval (.tmp 3) = .pointer (some ⟨q7, 0, none⟩) := ((p15.ne rfl).trans ((p14.ne rfl).trans (p13.ne rfl))).trans s3
  refine hK15 _ _ ?_
  clear hK15
  refine wp_seq_k fun K17 hK17 => ?_
  refine wp_region_lit ?_
  refine q_val rfl rfl ?_
  refine g_loadB rfl s3 Try.isAgg40 Try.sizeOf40 rfl h_q7 ?_
  intro a16 p16
  have s16 : a16.eval (.tmp 16) = .agg #[.int .i64 a, .int .i64 b, .int .i64 c, .int .i64 d] := p16.at hs (by decide)
  replace hs := p16.st hs
  refine q_eff rfl rfl ?_
  refine g_storeB rfl ((p16.ne rfl).trans s2) s16 Try.sizeOf40 rfl rfl h_q4 rfl ?_
  intro w18 W_w18
  replace h_q2 := keep_wrote h_q2 W_w18 n_q4_q2
  replace h_q4 := W_w18.here
  replace h_q7 := keep_wrote h_q7 W_w18 n_q4_q7
  replace hB := below_wrote hB hB.size W_w18 g_q4.le
  clear W_w18
  refine wpList_nil ?_
  replace s2 : a16.eval (.tmp 2) = .pointer (some ⟨q4, 0, none⟩) := (p16.ne rfl).trans s2
  refine hK17 _ _ ?_
  clear hK17
  refine wp_ret ?_
  try dsimp only [Exit.then, Exit.inBlock]
  refine ret1 hs Try.results34 (res_cell s2 h_q4 Try.isAgg40 Try.sizeOf40 rfl) ?_
  exact ⟨rfl, hB⟩
set_option maxRecDepth 100000 in
set_option maxHeartbeats 4000000 in
theorem toWaiting_any (n a b c d : Int) (w : World) :
    Calls Try.prog 36 #[.agg #[.int .i64 n, .int .i64 a, .int .i64 b, .int .i64 c, .int .i64 d]] w fun e w' => e = .returned (.agg #[.int .i64 n, .int .i64 a, .int .i64 b, .int .i64 c, .int .i64 d]) ∧ Below w.heap.size w w' := by
  refine enter 12 Try.func36 rfl rfl (Nat.le_of_ble_eq_true rfl) ?_
  intro a0 hs hargs
  have s0 : a0.eval (.tmp 0) = .agg #[.int .i64 n, .int .i64 a, .int .i64 b, .int .i64 c, .int .i64 d] := hargs 0 _ rfl
  clear hargs
  have hB : Below w.heap.size w w := Below.refl _ _
  refine wp_seq_k fun K1 hK1 => ?_
  refine wp_region_lit ?_
  refine q_val rfl rfl ?_
  refine g_box rfl s0 rfl ?_
  intro q2 w3 N_q2
  have g_q2 : GeB w.heap.size q2 := ⟨Nat.le_trans hB.size N_q2.lo⟩
  replace hB := below_new hB hB.size N_q2
  have h_q2 := N_q2.here
  clear N_q2
  intro a1 p1
  have s1 : a1.eval (.tmp 1) = .pointer (some ⟨q2, 0, none⟩) := p1.at hs (by decide)
  replace hs := p1.st hs
  refine q_val rfl rfl ?_
  refine g_alloc rfl Try.zeroValue45 rfl ?_
  intro q4 w5 N_q4
  have n_q2_q4 := N_q4.ne ⟨lt_of_block h_q2⟩
  have n_q4_q2 := n_q2_q4.symm
  have g_q4 : GeB w.heap.size q4 := ⟨Nat.le_trans hB.size N_q4.lo⟩
  replace h_q2 := keep_below h_q2 N_q4.below
  replace hB := below_new hB hB.size N_q4
  have h_q4 := N_q4.here
  clear N_q4
  intro a2 p2
  have s2 : a2.eval (.tmp 2) = .pointer (some ⟨q4, 0, none⟩) := p2.at hs (by decide)
  replace hs := p2.st hs
  refine wpList_nil ?_
  replace s1 : a2.eval (.tmp 1) = .pointer (some ⟨q2, 0, none⟩) := (p2.ne rfl).trans s1
  refine hK1 _ _ ?_
  clear hK1
  refine wp_seq_k fun K6 hK6 => ?_
  refine wp_region_lit ?_
  refine q_val rfl rfl ?_
  refine g_alloc rfl Try.zeroValue45 rfl ?_
  intro q7 w8 N_q7
  have n_q2_q7 := N_q7.ne ⟨lt_of_block h_q2⟩
  have n_q7_q2 := n_q2_q7.symm
  have n_q4_q7 := N_q7.ne ⟨lt_of_block h_q4⟩
  have n_q7_q4 := n_q4_q7.symm
  have g_q7 : GeB w.heap.size q7 := ⟨Nat.le_trans hB.size N_q7.lo⟩
  replace h_q2 := keep_below h_q2 N_q7.below
  replace h_q4 := keep_below h_q4 N_q7.below
  replace hB := below_new hB hB.size N_q7
  have h_q7 := N_q7.here
  clear N_q7
  intro a3 p3
  have s3 : a3.eval (.tmp 3) = .pointer (some ⟨q7, 0, none⟩) := p3.at hs (by decide)
  replace hs := p3.st hs
  refine wpList_nil ?_
  replace s1 : a3.eval (.tmp 1) = .pointer (some ⟨q2, 0, none⟩) := (p3.ne rfl).trans s1
  replace s2 : a3.eval (.tmp 2) = .pointer (some ⟨q4, 0, none⟩) := (p3.ne rfl).trans s2
  refine hK6 _ _ ?_
  clear hK6
  refine wp_seq_k fun K9 hK9 => ?_
  refine wp_region_lit ?_
  refine q_val rfl rfl ?_
  refine g_field (r := 0) rfl s1 Try.underlying77 rfl (fun w => Try.sizeOf3 w) rfl rfl ?_
  intro a4 p4
  have s4 : a4.eval (.tmp 4) = .pointer (some ⟨q2, 0, none⟩) := p4.at hs (by decide)
  replace hs := p4.st hs
  refine q_val rfl rfl ?_
  refine g_load rfl s4 Try.isAgg3 (box_cell h_q2 rfl) ?_
  intro a5 p5
  have s5 : a5.eval (.tmp 5) = .int .i64 n := p5.at hs (by decide)
  replace hs := p5.st hs
  refine q_val rfl rfl ?_
  refine g_field (r := 0) rfl (((p5.ne rfl).trans (p4.ne rfl)).trans s3) Try.underlying45 rfl (fun w => Try.sizeOf3 w) rfl rfl ?_
  intro a6 p6
  have s6 : a6.eval (.tmp 6) = .pointer (some ⟨q7, 0, none⟩) := p6.at hs (by decide)
  replace hs := p6.st hs
  refine q_eff rfl rfl ?_
  refine g_store (cs' := #[.int .i64 n, .int .i64 0, .int .i64 0, .int .i64 0, .int .i64 0]) rfl s6 ((p6.ne rfl).trans s5) Try.sizeOf3 rfl h_q7 (Nat.le_of_ble_eq_true rfl) rfl ?_
  intro w10 W_w10
  replace h_q2 := keep_wrote h_q2 W_w10 n_q7_q2
  replace h_q4 := keep_wrote h_q4 W_w10 n_q7_q4
  replace h_q7 := W_w10.here
  replace hB := below_wrote hB hB.size W_w10 g_q7.le
  clear W_w10
  refine wpList_nil ?_
  replace s1 : a6.eval (.tmp 1) = .pointer (some ⟨q2, 0, none⟩) := ((p6.ne rfl).trans ((p5.ne rfl).trans (p4.ne rfl))).trans s1
  replace s2 : a6.eval (.tmp 2) = .pointer (some ⟨q4, 0, none⟩) := ((p6.ne rfl).trans ((p5.ne rfl).trans (p4.ne rfl))).trans s2
  replace s3 : a6.eval (.tmp 3) = .pointer (some ⟨q7, 0, none⟩) := ((p6.ne rfl).trans ((p5.ne rfl).trans (p4.ne rfl))).trans s3
  refine hK9 _ _ ?_
  clear hK9
  refine wp_seq_k fun K11 hK11 => ?_
  refine wp_region_lit ?_
  refine q_val rfl rfl ?_
  refine g_field (r := 1) rfl s1 Try.underlying77 rfl (fun w => Try.sizeOf73 w) rfl rfl ?_
  intro a7 p7
  have s7 : a7.eval (.tmp 7) = .pointer (some ⟨q2, 1, none⟩) := p7.at hs (by decide)
  replace hs := p7.st hs
  refine q_val rfl rfl ?_
  refine g_loadA (l := [.int .i64 a, .int .i64 b, .int .i64 c, .int .i64 d]) rfl s7 Try.isAgg73 Try.sizeOf73 rfl (box_part h_q2 rfl) ?_
  intro a8 p8
  have s8 : a8.eval (.tmp 8) = .agg #[.int .i64 a, .int .i64 b, .int .i64 c, .int .i64 d] := p8.at hs (by decide)
  replace hs := p8.st hs
  refine q_val rfl rfl ?_
  refine g_call rfl rfl Try.call34 (arr1 s8) ?_
  refine (toOrder_any _ _ _ _ _).mono ?_
  rintro e w13 ⟨rfl, hb12⟩
  refine ⟨_, rfl, ?_⟩
  replace h_q2 := keep_below h_q2 hb12
  replace h_q4 := keep_below h_q4 hb12
  replace h_q7 := keep_below h_q7 hb12
  replace hB := hB.trans (hb12.mono hB.size)
  clear hb12
  intro a9 p9
  have s9 : a9.eval (.tmp 9) = .agg #[.int .i64 a, .int .i64 b, .int .i64 c, .int .i64 d] := p9.at hs (by decide)
  replace hs := p9.st hs
  refine q_val rfl rfl ?_
  refine g_field (r := 1) rfl (((p9.ne rfl).trans ((p8.ne rfl).trans (p7.ne rfl))).trans s3) Try.underlying45 rfl (fun w => Try.sizeOf40 w) rfl rfl ?_
  intro a10 p10
  have s10 : a10.eval (.tmp 10) = .pointer (some ⟨q7, 1, none⟩) := p10.at hs (by decide)
  replace hs := p10.st hs
  refine q_eff rfl rfl ?_
  refine g_storeP (new := #[.int .i64 n, .int .i64 a, .int .i64 b, .int .i64 c, .int .i64 d]) rfl s10 ((p10.ne rfl).trans s9) Try.sizeOf40 rfl rfl h_q7 (Nat.le_of_ble_eq_true rfl) rfl ?_
  intro w14 W_w14
  replace h_q2 := keep_wrote h_q2 W_w14 n_q7_q2
  replace h_q4 := keep_wrote h_q4 W_w14 n_q7_q4
  replace h_q7 := W_w14.here
  replace hB := below_wrote hB hB.size W_w14 g_q7.le
  clear W_w14
  refine wpList_nil ?_
  replace s2 : a10.eval (.tmp 2) = .pointer (some ⟨q4, 0, none⟩) := ((p10.ne rfl).trans ((p9.ne rfl).trans ((p8.ne rfl).trans (p7.ne rfl)))).trans s2
  replace s3 : a10.eval (.tmp 3) = .pointer (some ⟨q7, 0, none⟩) := ((p10.ne rfl).trans ((p9.ne rfl).trans ((p8.ne rfl).trans (p7.ne rfl)))).trans s3
  refine hK11 _ _ ?_
  clear hK11
  refine wp_seq_k fun K15 hK15 => ?_
  refine wp_region_lit ?_
  refine q_val rfl rfl ?_
  refine g_loadB rfl s3 Try.isAgg45 Try.sizeOf45 rfl h_q7 ?_
  intro a11 p11
  have s11 : a11.eval (.tmp 11) = .agg #[.int .i64 n, .int .i64 a, .int .i64 b, .int .i64 c, .int .i64 d] := p11.at hs (by decide)
  replace hs := p11.st hs
  refine q_eff rfl rfl ?_
  refine g_storeB rfl ((p11.ne rfl).trans s2) s11 Try.sizeOf45 rfl rfl h_q4 rfl ?_
  intro w16 W_w16
  replace h_q2 := keep_wrote h_q2 W_w16 n_q4_q2
  replace h_q4 := W_w16.here
  replace h_q7 := keep_wrote h_q7 W_w16 n_q4_q7
  replace hB := below_wrote hB hB.size W_w16 g_q4.le
  clear W_w16
  refine wpList_nil ?_
  replace s2 : a11.eval (.tmp 2) = .pointer (some ⟨q4, 0, none⟩) := (p11.ne rfl).trans s2
  refine hK15 _ _ ?_
  clear hK15
  refine wp_ret ?_
  try dsimp only [Exit.then, Exit.inBlock]
  refine ret1 hs Try.results36 (res_cell s2 h_q4 Try.isAgg45 Try.sizeOf45 rfl) ?_
  exact ⟨rfl, hB⟩
set_option maxRecDepth 100000 in
set_option maxHeartbeats 4000000 in
theorem eqOrder_same (a b c d : Int) (w : World) :
    Calls Try.prog 116 #[.agg #[.int .i64 a, .int .i64 b, .int .i64 c, .int .i64 d], .agg #[.int .i64 a, .int .i64 b, .int .i64 c, .int .i64 d]] w fun e w' => e = .returned (.bool true) ∧ Below w.heap.size w w' := by
  refine enter 25 Try.func116 rfl rfl (Nat.le_of_ble_eq_true rfl) ?_
  intro a0 hs hargs
  have s0 : a0.eval (.tmp 0) = .agg #[.int .i64 a, .int .i64 b, .int .i64 c, .int .i64 d] := hargs 0 _ rfl
  have s1 : a0.eval (.tmp 1) = .agg #[.int .i64 a, .int .i64 b, .int .i64 c, .int .i64 d] := hargs 1 _ rfl
  clear hargs
  have hB : Below w.heap.size w w := Below.refl _ _
  refine wp_seq_k fun K1 hK1 => ?_
  refine wp_region_lit ?_
  refine q_val rfl rfl ?_
  refine g_box rfl s0 rfl ?_
  intro q2 w3 N_q2
  have g_q2 : GeB w.heap.size q2 := ⟨Nat.le_trans hB.size N_q2.lo⟩
  replace hB := below_new hB hB.size N_q2
  have h_q2 := N_q2.here
  clear N_q2
  intro a1 p1
  have s2 : a1.eval (.tmp 2) = .pointer (some ⟨q2, 0, none⟩) := p1.at hs (by decide)
  replace hs := p1.st hs
  refine q_val rfl rfl ?_
  refine g_box rfl ((p1.ne rfl).trans s1) rfl ?_
  intro q4 w5 N_q4
  have n_q2_q4 := N_q4.ne ⟨lt_of_block h_q2⟩
  have n_q4_q2 := n_q2_q4.symm
  have g_q4 : GeB w.heap.size q4 := ⟨Nat.le_trans hB.size N_q4.lo⟩
  replace h_q2 := keep_below h_q2 N_q4.below
  replace hB := below_new hB hB.size N_q4
  have h_q4 := N_q4.here
  clear N_q4
  intro a2 p2
  have s3 : a2.eval (.tmp 3) = .pointer (some ⟨q4, 0, none⟩) := p2.at hs (by decide)
  replace hs := p2.st hs
  refine q_val rfl rfl ?_
  refine g_assign rfl rfl ?_
  intro a3 p3
  have s4 : a3.eval (.tmp 4) = .bool false := p3.at hs (by decide)
  replace hs := p3.st hs
  refine wpList_nil ?_
  replace s2 : a3.eval (.tmp 2) = .pointer (some ⟨q2, 0, none⟩) := ((p3.ne rfl).trans (p2.ne rfl)).trans s2
  replace s3 : a3.eval (.tmp 3) = .pointer (some ⟨q4, 0, none⟩) := (p3.ne rfl).trans s3
  refine hK1 _ _ ?_
  clear hK1
  refine wp_seq_k fun K6 hK6 => ?_
  refine wp_seq_k fun K7 hK7 => ?_
  refine wp_region_lit ?_
  refine q_val rfl rfl ?_
  refine g_field (r := 0) rfl s2 Try.underlying40 rfl (fun w => Try.sizeOf3 w) rfl rfl ?_
  intro a4 p4
  have s5 : a4.eval (.tmp 5) = .pointer (some ⟨q2, 0, none⟩) := p4.at hs (by decide)
  replace hs := p4.st hs
  refine q_val rfl rfl ?_
  refine g_load rfl s5 Try.isAgg3 (box_cell h_q2 rfl) ?_
  intro a5 p5
  have s6 : a5.eval (.tmp 6) = .int .i64 a := p5.at hs (by decide)
  replace hs := p5.st hs
  refine q_val rfl rfl ?_
  refine g_field (r := 0) rfl (((p5.ne rfl).trans (p4.ne rfl)).trans s3) Try.underlying40 rfl (fun w => Try.sizeOf3 w) rfl rfl ?_
  intro a6 p6
  have s7 : a6.eval (.tmp 7) = .pointer (some ⟨q4, 0, none⟩) := p6.at hs (by decide)
  replace hs := p6.st hs
  refine q_val rfl rfl ?_
  refine g_load rfl s7 Try.isAgg3 (box_cell h_q4 rfl) ?_
  intro a7 p7
  have s8 : a7.eval (.tmp 8) = .int .i64 a := p7.at hs (by decide)
  replace hs := p7.st hs
  refine q_val rfl rfl ?_
  refine g_neq rfl (((p7.ne rfl).trans (p6.ne rfl)).trans s6) s8 ?_
  intro a8 p8
  have s9 : a8.eval (.tmp 9) = .bool false := (p8.at hs (by decide)).trans (congrArg (fun b => Value.bool (!b)) (decide_eq_true rfl))
  replace hs := p8.st hs
  refine wpList_nil ?_
  replace s2 : a8.eval (.tmp 2) = .pointer (some ⟨q2, 0, none⟩) := ((p8.ne rfl).trans ((p7.ne rfl).trans ((p6.ne rfl).trans ((p5.ne rfl).trans (p4.ne rfl))))).trans s2
  replace s3 : a8.eval (.tmp 3) = .pointer (some ⟨q4, 0, none⟩) := ((p8.ne rfl).trans ((p7.ne rfl).trans ((p6.ne rfl).trans ((p5.ne rfl).trans (p4.ne rfl))))).trans s3
  replace s4 : a8.eval (.tmp 4) = .bool false := ((p8.ne rfl).trans ((p7.ne rfl).trans ((p6.ne rfl).trans ((p5.ne rfl).trans (p4.ne rfl))))).trans s4
  refine hK7 _ _ ?_
  clear hK7
  refine c_false s9 ?_
  refine wp_skip ?_
  refine hK6 _ _ ?_
  clear hK6
  refine wp_seq_k fun K8 hK8 => ?_
  refine wp_seq_k fun K9 hK9 => ?_
  refine wp_region_lit ?_
  refine q_val rfl rfl ?_
  refine g_field (r := 1) rfl s2 Try.underlying40 rfl (fun w => Try.sizeOf3 w) rfl rfl ?_
  intro a9 p9
  have s10 : a9.eval (.tmp 10) = .pointer (some ⟨q2, 1, none⟩) := p9.at hs (by decide)
  replace hs := p9.st hs
  refine q_val rfl rfl ?_
  refine g_load rfl s10 Try.isAgg3 (box_cell h_q2 rfl) ?_
  intro a10 p10
  have s11 : a10.eval (.tmp 11) = .int .i64 b := p10.at hs (by decide)
  replace hs := p10.st hs
  refine q_val rfl rfl ?_
  refine g_field (r := 1) rfl (((p10.ne rfl).trans (p9.ne rfl)).trans s3) Try.underlying40 rfl (fun w => Try.sizeOf3 w) rfl rfl ?_
  intro a11 p11
  have s12 : a11.eval (.tmp 12) = .pointer (some ⟨q4, 1, none⟩) := p11.at hs (by decide)
  replace hs := p11.st hs
  refine q_val rfl rfl ?_
  refine g_load rfl s12 Try.isAgg3 (box_cell h_q4 rfl) ?_
  intro a12 p12
  have s13 : a12.eval (.tmp 13) = .int .i64 b := p12.at hs (by decide)
  replace hs := p12.st hs
  refine q_val rfl rfl ?_
  refine g_neq rfl (((p12.ne rfl).trans (p11.ne rfl)).trans s11) s13 ?_
  intro a13 p13
  have s14 : a13.eval (.tmp 14) = .bool false := (p13.at hs (by decide)).trans (congrArg (fun b => Value.bool (!b)) (decide_eq_true rfl))
  replace hs := p13.st hs
  refine wpList_nil ?_
  replace s2 : a13.eval (.tmp 2) = .pointer (some ⟨q2, 0, none⟩) := ((p13.ne rfl).trans ((p12.ne rfl).trans ((p11.ne rfl).trans ((p10.ne rfl).trans (p9.ne rfl))))).trans s2
  replace s3 : a13.eval (.tmp 3) = .pointer (some ⟨q4, 0, none⟩) := ((p13.ne rfl).trans ((p12.ne rfl).trans ((p11.ne rfl).trans ((p10.ne rfl).trans (p9.ne rfl))))).trans s3
  replace s4 : a13.eval (.tmp 4) = .bool false := ((p13.ne rfl).trans ((p12.ne rfl).trans ((p11.ne rfl).trans ((p10.ne rfl).trans (p9.ne rfl))))).trans s4
  refine hK9 _ _ ?_
  clear hK9
  refine c_false s14 ?_
  refine wp_skip ?_
  refine hK8 _ _ ?_
  clear hK8
  refine wp_seq_k fun K10 hK10 => ?_
  refine wp_seq_k fun K11 hK11 => ?_
  refine wp_region_lit ?_
  refine q_val rfl rfl ?_
  refine g_field (r := 2) rfl s2 Try.underlying40 rfl (fun w => Try.sizeOf3 w) rfl rfl ?_
  intro a14 p14
  have s15 : a14.eval (.tmp 15) = .pointer (some ⟨q2, 2, none⟩) := p14.at hs (by decide)
  replace hs := p14.st hs
  refine q_val rfl rfl ?_
  refine g_load rfl s15 Try.isAgg3 (box_cell h_q2 rfl) ?_
  intro a15 p15
  have s16 : a15.eval (.tmp 16) = .int .i64 c := p15.at hs (by decide)
  replace hs := p15.st hs
  refine q_val rfl rfl ?_
  refine g_field (r := 2) rfl (((p15.ne rfl).trans (p14.ne rfl)).trans s3) Try.underlying40 rfl (fun w => Try.sizeOf3 w) rfl rfl ?_
  intro a16 p16
  have s17 : a16.eval (.tmp 17) = .pointer (some ⟨q4, 2, none⟩) := p16.at hs (by decide)
  replace hs := p16.st hs
  refine q_val rfl rfl ?_
  refine g_load rfl s17 Try.isAgg3 (box_cell h_q4 rfl) ?_
  intro a17 p17
  have s18 : a17.eval (.tmp 18) = .int .i64 c := p17.at hs (by decide)
  replace hs := p17.st hs
  refine q_val rfl rfl ?_
  refine g_neq rfl (((p17.ne rfl).trans (p16.ne rfl)).trans s16) s18 ?_
  intro a18 p18
  have s19 : a18.eval (.tmp 19) = .bool false := (p18.at hs (by decide)).trans (congrArg (fun b => Value.bool (!b)) (decide_eq_true rfl))
  replace hs := p18.st hs
  refine wpList_nil ?_
  replace s2 : a18.eval (.tmp 2) = .pointer (some ⟨q2, 0, none⟩) := ((p18.ne rfl).trans ((p17.ne rfl).trans ((p16.ne rfl).trans ((p15.ne rfl).trans (p14.ne rfl))))).trans s2
  replace s3 : a18.eval (.tmp 3) = .pointer (some ⟨q4, 0, none⟩) := ((p18.ne rfl).trans ((p17.ne rfl).trans ((p16.ne rfl).trans ((p15.ne rfl).trans (p14.ne rfl))))).trans s3
  replace s4 : a18.eval (.tmp 4) = .bool false := ((p18.ne rfl).trans ((p17.ne rfl).trans ((p16.ne rfl).trans ((p15.ne rfl).trans (p14.ne rfl))))).trans s4
  refine hK11 _ _ ?_
  clear hK11
  refine c_false s19 ?_
  refine wp_skip ?_
  refine hK10 _ _ ?_
  clear hK10
  refine wp_seq_k fun K12 hK12 => ?_
  refine wp_seq_k fun K13 hK13 => ?_
  refine wp_region_lit ?_
  refine q_val rfl rfl ?_
  refine g_field (r := 3) rfl s2 Try.underlying40 rfl (fun w => Try.sizeOf3 w) rfl rfl ?_
  intro a19 p19
  have s20 : a19.eval (.tmp 20) = .pointer (some ⟨q2, 3, none⟩) := p19.at hs (by decide)
  replace hs := p19.st hs
  refine q_val rfl rfl ?_
  refine g_load rfl s20 Try.isAgg3 (box_cell h_q2 rfl) ?_
  intro a20 p20
  have s21 : a20.eval (.tmp 21) = .int .i64 d := p20.at hs (by decide)
  replace hs := p20.st hs
  refine q_val rfl rfl ?_
  refine g_field (r := 3) rfl (((p20.ne rfl).trans (p19.ne rfl)).trans s3) Try.underlying40 rfl (fun w => Try.sizeOf3 w) rfl rfl ?_
  intro a21 p21
  have s22 : a21.eval (.tmp 22) = .pointer (some ⟨q4, 3, none⟩) := p21.at hs (by decide)
  replace hs := p21.st hs
  refine q_val rfl rfl ?_
  refine g_load rfl s22 Try.isAgg3 (box_cell h_q4 rfl) ?_
  intro a22 p22
  have s23 : a22.eval (.tmp 23) = .int .i64 d := p22.at hs (by decide)
  replace hs := p22.st hs
  refine q_val rfl rfl ?_
  refine g_neq rfl (((p22.ne rfl).trans (p21.ne rfl)).trans s21) s23 ?_
  intro a23 p23
  have s24 : a23.eval (.tmp 24) = .bool false := (p23.at hs (by decide)).trans (congrArg (fun b => Value.bool (!b)) (decide_eq_true rfl))
  replace hs := p23.st hs
  refine wpList_nil ?_
  replace s4 : a23.eval (.tmp 4) = .bool false := ((p23.ne rfl).trans ((p22.ne rfl).trans ((p21.ne rfl).trans ((p20.ne rfl).trans (p19.ne rfl))))).trans s4
  refine hK13 _ _ ?_
  clear hK13
  refine c_false s24 ?_
  refine wp_skip ?_
  refine hK12 _ _ ?_
  clear hK12
  refine wp_seq_k fun K14 hK14 => ?_
  refine wp_region_lit ?_
  refine q_val rfl rfl ?_
  refine g_assign rfl rfl ?_
  intro a24 p24
  have s4 : a24.eval (.tmp 4) = .bool true := p24.at hs (by decide)
  replace hs := p24.st hs
  refine wpList_nil ?_
  refine hK14 _ _ ?_
  clear hK14
  refine wp_ret ?_
  try dsimp only [Exit.then, Exit.inBlock]
  refine ret1 hs Try.results116 (res_tmp s4) ?_
  exact ⟨rfl, hB⟩
set_option maxRecDepth 100000 in
set_option maxHeartbeats 4000000 in
theorem eqWaiting_same (n a b c d : Int) (w : World) :
    Calls Try.prog 101 #[.agg #[.int .i64 n, .int .i64 a, .int .i64 b, .int .i64 c, .int .i64 d], .agg #[.int .i64 n, .int .i64 a, .int .i64 b, .int .i64 c, .int .i64 d]] w fun e w' => e = .returned (.bool true) ∧ Below w.heap.size w w' := by
  refine enter 16 Try.func101 rfl rfl (Nat.le_of_ble_eq_true rfl) ?_
  intro a0 hs hargs
  have s0 : a0.eval (.tmp 0) = .agg #[.int .i64 n, .int .i64 a, .int .i64 b, .int .i64 c, .int .i64 d] := hargs 0 _ rfl
  have s1 : a0.eval (.tmp 1) = .agg #[.int .i64 n, .int .i64 a, .int .i64 b, .int .i64 c, .int .i64 d] := hargs 1 _ rfl
  clear hargs
  have hB : Below w.heap.size w w := Below.refl _ _
  refine wp_seq_k fun K1 hK1 => ?_
  refine wp_region_lit ?_
  refine q_val rfl rfl ?_
  refine g_box rfl s0 rfl ?_
  intro q2 w3 N_q2
  have g_q2 : GeB w.heap.size q2 := ⟨Nat.le_trans hB.size N_q2.lo⟩
  replace hB := below_new hB hB.size N_q2
  have h_q2 := N_q2.here
  clear N_q2
  intro a1 p1
  have s2 : a1.eval (.tmp 2) = .pointer (some ⟨q2, 0, none⟩) := p1.at hs (by decide)
  replace hs := p1.st hs
  refine q_val rfl rfl ?_
  refine g_box rfl ((p1.ne rfl).trans s1) rfl ?_
  intro q4 w5 N_q4
  have n_q2_q4 := N_q4.ne ⟨lt_of_block h_q2⟩
  have n_q4_q2 := n_q2_q4.symm
  have g_q4 : GeB w.heap.size q4 := ⟨Nat.le_trans hB.size N_q4.lo⟩
  replace h_q2 := keep_below h_q2 N_q4.below
  replace hB := below_new hB hB.size N_q4
  have h_q4 := N_q4.here
  clear N_q4
  intro a2 p2
  have s3 : a2.eval (.tmp 3) = .pointer (some ⟨q4, 0, none⟩) := p2.at hs (by decide)
  replace hs := p2.st hs
  refine q_val rfl rfl ?_
  refine g_assign rfl rfl ?_
  intro a3 p3
  have s4 : a3.eval (.tmp 4) = .bool false := p3.at hs (by decide)
  replace hs := p3.st hs
  refine wpList_nil ?_
  replace s2 : a3.eval (.tmp 2) = .pointer (some ⟨q2, 0, none⟩) := ((p3.ne rfl).trans (p2.ne rfl)).trans s2
  replace s3 : a3.eval (.tmp 3) = .pointer (some ⟨q4, 0, none⟩) := (p3.ne rfl).trans s3
  refine hK1 _ _ ?_
  clear hK1
  refine wp_seq_k fun K6 hK6 => ?_
  refine wp_seq_k fun K7 hK7 => ?_
  refine wp_region_lit ?_
  refine q_val rfl rfl ?_
  refine g_field (r := 0) rfl s2 Try.underlying45 rfl (fun w => Try.sizeOf3 w) rfl rfl ?_
  intro a4 p4
  have s5 : a4.eval (.tmp 5) = .pointer (some ⟨q2, 0, none⟩) := p4.at hs (by decide)
  replace hs := p4.st hs
  refine q_val rfl rfl ?_
  refine g_load rfl s5 Try.isAgg3 (box_cell h_q2 rfl) ?_
  intro a5 p5
  have s6 : a5.eval (.tmp 6) = .int .i64 n := p5.at hs (by decide)
  replace hs := p5.st hs
  refine q_val rfl rfl ?_
  refine g_field (r := 0) rfl (((p5.ne rfl).trans (p4.ne rfl)).trans s3) Try.underlying45 rfl (fun w => Try.sizeOf3 w) rfl rfl ?_
  intro a6 p6
  have s7 : a6.eval (.tmp 7) = .pointer (some ⟨q4, 0, none⟩) := p6.at hs (by decide)
  replace hs := p6.st hs
  refine q_val rfl rfl ?_
  refine g_load rfl s7 Try.isAgg3 (box_cell h_q4 rfl) ?_
  intro a7 p7
  have s8 : a7.eval (.tmp 8) = .int .i64 n := p7.at hs (by decide)
  replace hs := p7.st hs
  refine q_val rfl rfl ?_
  refine g_neq rfl (((p7.ne rfl).trans (p6.ne rfl)).trans s6) s8 ?_
  intro a8 p8
  have s9 : a8.eval (.tmp 9) = .bool false := (p8.at hs (by decide)).trans (congrArg (fun b => Value.bool (!b)) (decide_eq_true rfl))
  replace hs := p8.st hs
  refine wpList_nil ?_
  replace s2 : a8.eval (.tmp 2) = .pointer (some ⟨q2, 0, none⟩) := ((p8.ne rfl).trans ((p7.ne rfl).trans ((p6.ne rfl).trans ((p5.ne rfl).trans (p4.ne rfl))))).trans s2
  replace s3 : a8.eval (.tmp 3) = .pointer (some ⟨q4, 0, none⟩) := ((p8.ne rfl).trans ((p7.ne rfl).trans ((p6.ne rfl).trans ((p5.ne rfl).trans (p4.ne rfl))))).trans s3
  replace s4 : a8.eval (.tmp 4) = .bool false := ((p8.ne rfl).trans ((p7.ne rfl).trans ((p6.ne rfl).trans ((p5.ne rfl).trans (p4.ne rfl))))).trans s4
  refine hK7 _ _ ?_
  clear hK7
  refine c_false s9 ?_
  refine wp_skip ?_
  refine hK6 _ _ ?_
  clear hK6
  refine wp_seq_k fun K8 hK8 => ?_
  refine wp_seq_k fun K9 hK9 => ?_
  refine wp_region_lit ?_
  refine q_val rfl rfl ?_
  refine g_field (r := 1) rfl s2 Try.underlying45 rfl (fun w => Try.sizeOf40 w) rfl rfl ?_
  intro a9 p9
  have s10 : a9.eval (.tmp 10) = .pointer (some ⟨q2, 1, none⟩) := p9.at hs (by decide)
  replace hs := p9.st hs
  refine q_val rfl rfl ?_
  refine g_loadA (l := [.int .i64 a, .int .i64 b, .int .i64 c, .int .i64 d]) rfl s10 Try.isAgg40 Try.sizeOf40 rfl (box_part h_q2 rfl) ?_
  intro a10 p10
  have s11 : a10.eval (.tmp 11) = .agg #[.int .i64 a, .int .i64 b, .int .i64 c, .int .i64 d] := p10.at hs (by decide)
  replace hs := p10.st hs
  refine q_val rfl rfl ?_
  refine g_field (r := 1) rfl (((p10.ne rfl).trans (p9.ne rfl)).trans s3) Try.underlying45 rfl (fun w => Try.sizeOf40 w) rfl rfl ?_
  intro a11 p11
  have s12 : a11.eval (.tmp 12) = .pointer (some ⟨q4, 1, none⟩) := p11.at hs (by decide)
  replace hs := p11.st hs
  refine q_val rfl rfl ?_
  refine g_loadA (l := [.int .i64 a, .int .i64 b, .int .i64 c, .int .i64 d]) rfl s12 Try.isAgg40 Try.sizeOf40 rfl (box_part h_q4 rfl) ?_
  intro a12 p12
  have s13 : a12.eval (.tmp 13) = .agg #[.int .i64 a, .int .i64 b, .int .i64 c, .int .i64 d] := p12.at hs (by decide)
  replace hs := p12.st hs
  refine q_val rfl rfl ?_
  refine g_call rfl rfl Try.call116 (arr2 (((p12.ne rfl).trans (p11.ne rfl)).trans s11) s13) ?_
  refine (eqOrder_same _ _ _ _ _).mono ?_
  rintro e w11 ⟨rfl, hb10⟩
  refine ⟨_, rfl, ?_⟩
  replace h_q2 := keep_below h_q2 hb10
  replace h_q4 := keep_below h_q4 hb10
  replace hB := hB.trans (hb10.mono hB.size)
  clear hb10
  intro a13 p13
  have s14 : a13.eval (.tmp 14) = .bool true := p13.at hs (by decide)
  replace hs := p13.st hs
  refine q_val rfl rfl ?_
  refine g_not rfl s14 ?_
  intro a14 p14
  have s15 : a14.eval (.tmp 15) = .bool false := p14.at hs (by decide)
  replace hs := p14.st hs
  refine wpList_nil ?_
  replace s4 : a14.eval (.tmp 4) = .bool false := ((p14.ne rfl).trans ((p13.ne rfl).trans ((p12.ne rfl).trans ((p11.ne rfl).trans ((p10.ne rfl).trans (p9.ne rfl)))))).trans s4
  refine hK9 _ _ ?_
  clear hK9
  refine c_false s15 ?_
  refine wp_skip ?_
  refine hK8 _ _ ?_
  clear hK8
  refine wp_seq_k fun K12 hK12 => ?_
  refine wp_region_lit ?_
  refine q_val rfl rfl ?_
  refine g_assign rfl rfl ?_
  intro a15 p15
  have s4 : a15.eval (.tmp 4) = .bool true := p15.at hs (by decide)
  replace hs := p15.st hs
  refine wpList_nil ?_
  refine hK12 _ _ ?_
  clear hK12
  refine wp_ret ?_
  try dsimp only [Exit.then, Exit.inBlock]
  refine ret1 hs Try.results101 (res_tmp s4) ?_
  exact ⟨rfl, hB⟩
end Go.Proofs.Ytoccapmoehdohaa
