/- Contracts: frames are taken out of a packer. No condition. -/
import Derived.Test.YtmcgmiapbdoocaaFrmTf
import Derived.Test.YtmcgmiapbdoocaaDrawTree
namespace Go.Proofs.Ytmcgmiapbdoocaa
open Go.RowKit

set_option maxRecDepth 100000 in
set_option maxHeartbeats 4000000 in
theorem takeFrame_any (ch ct : Int) (rest : List UInt8) (B : Option Addr) (m dp : Nat) (ds : List Int) (w : World) (hx : rest.length ≤ 1048576) (hm : ds.length = m) (hbm : m ≤ 1048576) (hnn_d : B = none → m = 0 ∧ dp = 0) (hr_d : Rd w 1 B m (ds.flatMap cI)) :
    Calls Try.prog 26 #[.agg #[.int .i64 ch, .int .i64 ct, .string ⟨rest.toArray⟩, .slice B m dp]] w fun e w' => ∃ A n c, e = .returned (.tuple #[.agg #[.int .i64 ch, .int .i64 (tfC ch ct rest ds), .string ⟨(tfR ch ct rest ds).toArray⟩, .slice A n c], .agg #[.int .i64 (tfF ch ct rest ds).f0, .int .i64 (tfF ch ct rest ds).f1, .int .i64 (tfF ch ct rest ds).f2, .string ⟨((tfF ch ct rest ds).f3).toArray⟩], .bool (tfOk ch ct rest ds)]) ∧ (tfD ch ct rest ds).length = n ∧ w'.ownsRow w.heap.size 3 1 (.slice A n c) n ((tfD ch ct rest ds).flatMap cI) ∧ Below w.heap.size w w' := by
  subst hm
  refine enter 74 Try.func26 rfl rfl (Nat.le_of_ble_eq_true rfl) ?_
  intro a0 hs hargs
  have s0 : a0.eval (.tmp 0) = .agg #[.int .i64 ch, .int .i64 ct, .string ⟨(rest).toArray⟩, .slice B ds.length dp] := hargs 0 _ rfl
  clear hargs
  have hB : Below w.heap.size w w := Below.refl _ _
  refine wp_seq_k fun K1 hK1 => ?_
  refine wp_region_lit ?_
  refine q_val rfl rfl ?_
  refine g_box rfl s0 rfl ?_
  intro q2 w3 N_q2
  have g_q2 : GeB w.heap.size q2 := ⟨Nat.le_trans hB.size N_q2.lo⟩
  replace hB := below_new hB hB.size N_q2
  have h_q2 := N_q2.here
  clear N_q2
  intro a1 p1
  have s1 : a1.eval (.tmp 1) = .pointer (some ⟨q2, 0, none⟩) := p1.at hs (by decide)
  replace hs := p1.st hs
  refine q_val rfl rfl ?_
  refine g_alloc rfl Try.zeroValue28 rfl ?_
  intro q4 w5 N_q4
  have n_q2_q4 := N_q4.ne ⟨lt_of_block h_q2⟩
  have n_q4_q2 := n_q2_q4.symm
  have g_q4 : GeB w.heap.size q4 := ⟨Nat.le_trans hB.size N_q4.lo⟩
  replace h_q2 := keep_below h_q2 N_q4.below
  replace hB := below_new hB hB.size N_q4
  have h_q4 := N_q4.here
  clear N_q4
  intro a2 p2
  have s2 : a2.eval (.tmp 2) = .pointer (some ⟨q4, 0, none⟩) := p2.at hs (by decide)
  replace hs := p2.st hs
  refine q_val rfl rfl ?_
  refine g_alloc rfl Try.zeroValue40 rfl ?_
  intro q6 w7 N_q6
  have n_q2_q6 := N_q6.ne ⟨lt_of_block h_q2⟩
  have n_q6_q2 := n_q2_q6.symm
  have n_q4_q6 := N_q6.ne ⟨lt_of_block h_q4⟩
  have n_q6_q4 := n_q4_q6.symm
  have g_q6 : GeB w.heap.size q6 := ⟨Nat.le_trans hB.size N_q6.lo⟩
  replace h_q2 := keep_below h_q2 N_q6.below
  replace h_q4 := keep_below h_q4 N_q6.below
  replace hB := below_new hB hB.size N_q6
  have h_q6 := N_q6.here
  clear N_q6
  intro a3 p3
  have s3 : a3.eval (.tmp 3) = .pointer (some ⟨q6, 0, none⟩) := p3.at hs (by decide)
  replace hs := p3.st hs
  refine q_val rfl rfl ?_
  refine g_assign rfl rfl ?_
  intro a4 p4
  have s4 : a4.eval (.tmp 4) = .bool false := p4.at hs (by decide)
  replace hs := p4.st hs
  refine wpList_nil ?_
  replace s1 : a4.eval (.tmp 1) = .pointer (some ⟨q2, 0, none⟩) := ((p4.ne rfl).trans ((p3.ne rfl).trans (p2.ne rfl))).trans s1
  replace s2 : a4.eval (.tmp 2) = .pointer (some ⟨q4, 0, none⟩) := ((p4.ne rfl).trans (p3.ne rfl)).trans s2
  replace s3 : a4.eval (.tmp 3) = .pointer (some ⟨q6, 0, none⟩) := (p4.ne rfl).trans s3
  refine hK1 _ _ ?_
  clear hK1
  refine wp_seq_k fun K8 hK8 => ?_
  refine wp_seq_k fun K9 hK9 => ?_
  refine wp_region_lit ?_
  refine q_val rfl rfl ?_
  refine g_loadB rfl s1 Try.isAgg28 Try.sizeOf28 rfl h_q2 ?_
  intro a5 p5
  have s9 : a5.eval (.tmp 9) = .agg #[.int .i64 ch, .int .i64 ct, .string ⟨(rest).toArray⟩, .slice B ds.length dp] := p5.at hs (by decide)
  replace hs := p5.st hs
  refine q_val rfl rfl ?_
  refine g_call rfl rfl Try.call31 (arr1 s9) ?_
  refine (packerOk_any _ _ _ _ _ _ ds _ (by unfold Txt; omega) rfl (by omega) (hr_d.below hB)).mono ?_
  rintro e w11 ⟨rfl, hb10⟩
  refine ⟨_, rfl, ?_⟩
  replace h_q2 := keep_below h_q2 hb10
  replace h_q4 := keep_below h_q4 hb10
  replace h_q6 := keep_below h_q6 hb10
  replace hB := hB.trans (hb10.mono hB.size)
  clear hb10
  intro a6 p6
  have s10 : a6.eval (.tmp 10) = .bool (pkrOk ch ct rest ds) := p6.at hs (by decide)
  replace hs := p6.st hs
  refine q_val rfl rfl ?_
  refine g_not rfl s10 ?_
  intro a7 p7
  have s11 : a7.eval (.tmp 11) = .bool (!(pkrOk ch ct rest ds)) := p7.at hs (by decide)
  replace hs := p7.st hs
  refine q_val rfl rfl ?_
  refine g_move rfl s11 ?_
  intro a8 p8
  have s12 : a8.eval (.tmp 12) = .bool (!(pkrOk ch ct rest ds)) := p8.at hs (by decide)
  replace hs := p8.st hs
  cases h1 : pkrOk ch ct rest ds
  · replace s10 := s10.trans (congrArg Value.bool h1)
    replace s10 : a6.eval (.tmp 10) = .bool false := s10
    replace s11 := s11.trans (congrArg (fun b => Value.bool (!b)) h1)
    replace s11 : a7.eval (.tmp 11) = .bool true := s11
    replace s12 := s12.trans (congrArg (fun b => Value.bool (!b)) h1)
    replace s12 : a8.eval (.tmp 12) = .bool true := s12
    refine q_skip rfl rfl s12 rfl ?_
    intro a9 p9
    have s13 : a9.eval (.tmp 13) = undef := p9.at hs (by decide)
    replace hs := p9.st hs
    refine q_skip rfl rfl ((p9.ne rfl).trans s12) rfl ?_
    intro a10 p10
    have s14 : a10.eval (.tmp 14) = undef := p10.at hs (by decide)
    replace hs := p10.st hs
    refine q_skip rfl rfl (((p10.ne rfl).trans (p9.ne rfl)).trans s12) rfl ?_
    intro a11 p11
    have s15 : a11.eval (.tmp 15) = undef := p11.at hs (by decide)
    replace hs := p11.st hs
    refine q_skip rfl rfl (((p11.ne rfl).trans ((p10.ne rfl).trans (p9.ne rfl))).trans s12) rfl ?_
    intro a12 p12
    have s16 : a12.eval (.tmp 16) = undef := p12.at hs (by decide)
    replace hs := p12.st hs
    refine q_val rfl rfl ?_
    refine g_pick_t rfl (((p12.ne rfl).trans ((p11.ne rfl).trans ((p10.ne rfl).trans (p9.ne rfl)))).trans s12) rfl ?_
    intro a13 p13
    have s17 : a13.eval (.tmp 17) = .bool true := p13.at hs (by decide)
    replace hs := p13.st hs
    refine wpList_nil ?_
    replace s1 : a13.eval (.tmp 1) = .pointer (some ⟨q2, 0, none⟩) := ((p13.ne rfl).trans ((p12.ne rfl).trans ((p11.ne rfl).trans ((p10.ne rfl).trans ((p9.ne rfl).trans ((p8.ne rfl).trans ((p7.ne rfl).trans ((p6.ne rfl).trans (p5.ne rfl))))))))).trans s1
    replace s2 : a13.eval (.tmp 2) = .pointer (some ⟨q4, 0, none⟩) := ((p13.ne rfl).trans ((p12.ne rfl).trans ((p11.ne rfl).trans ((p10.ne rfl).trans ((p9.ne rfl).trans ((p8.ne rfl).trans ((p7.ne rfl).trans ((p6.ne rfl).trans (p5.ne rfl))))))))).trans s2
    replace s3 : a13.eval (.tmp 3) = .pointer (some ⟨q6, 0, none⟩) := ((p13.ne rfl).trans ((p12.ne rfl).trans ((p11.ne rfl).trans ((p10.ne rfl).trans ((p9.ne rfl).trans ((p8.ne rfl).trans ((p7.ne rfl).trans ((p6.ne rfl).trans (p5.ne rfl))))))))).trans s3
    replace s4 : a13.eval (.tmp 4) = .bool false := ((p13.ne rfl).trans ((p12.ne rfl).trans ((p11.ne rfl).trans ((p10.ne rfl).trans ((p9.ne rfl).trans ((p8.ne rfl).trans ((p7.ne rfl).trans ((p6.ne rfl).trans (p5.ne rfl))))))))).trans s4
    refine hK9 _ _ ?_
    clear hK9
    refine c_true s17 ?_
    refine wp_seq_k fun K12 hK12 => ?_
    refine wp_region_lit ?_
    refine q_val rfl rfl ?_
    refine g_loadB rfl s1 Try.isAgg28 Try.sizeOf28 rfl h_q2 ?_
    intro a14 p14
    have s18 : a14.eval (.tmp 18) = .agg #[.int .i64 ch, .int .i64 ct, .string ⟨(rest).toArray⟩, .slice B ds.length dp] := p14.at hs (by decide)
    replace hs := p14.st hs
    refine q_val rfl rfl ?_
    refine g_call rfl rfl Try.call35 (arr1 s18) ?_
    refine (clonePacker_any _ _ _ _ _ _ ds _ (by unfold Txt; omega) rfl (by omega) hnn_d (hr_d.below hB)).mono ?_
    rintro e w14 ⟨A13, c13, rfl, o_x13, hb13⟩
    refine ⟨_, rfl, ?_⟩
    have d_x13_q2 := own_ne_box o_x13 (lt_of_block h_q2)
    have d_x13_q4 := own_ne_box o_x13 (lt_of_block h_q4)
    have d_x13_q6 := own_ne_box o_x13 (lt_of_block h_q6)
    have g_x13 : ∀ b, (A13 : Option Addr).map (·.block) = some b → w.heap.size ≤ b := fun b h => Nat.le_trans hB.size (own_row o_x13 b h).1
    replace o_x13 := own_base (base := w.heap.size) o_x13 hB.size
    replace h_q2 := keep_below h_q2 hb13
    replace h_q4 := keep_below h_q4 hb13
    replace h_q6 := keep_below h_q6 hb13
    replace hB := hB.trans (hb13.mono hB.size)
    clear hb13
    intro a15 p15
    have s19 : a15.eval (.tmp 19) = .agg #[.int .i64 ch, .int .i64 ct, .string ⟨(rest).toArray⟩, .slice A13 ds.length c13] := p15.at hs (by decide)
    replace hs := p15.st hs
    refine q_val rfl rfl ?_
    refine g_build (cells := #[.int .i64 0, .int .i64 0, .int .i64 0, .string ⟨#[]⟩]) rfl (arrB0 ) (by kernel_rfl) ?_
    intro a16 p16
    have s20 : a16.eval (.tmp 20) = .agg #[.int .i64 0, .int .i64 0, .int .i64 0, .string ⟨#[]⟩] := p16.at hs (by decide)
    replace hs := p16.st hs
    refine q_eff rfl rfl ?_
    refine g_storeB rfl (((p16.ne rfl).trans ((p15.ne rfl).trans (p14.ne rfl))).trans s2) ((p16.ne rfl).trans s19) Try.sizeOf28 rfl rfl h_q4 rfl ?_
    intro w15 W_w15
    replace h_q2 := keep_wrote h_q2 W_w15 n_q4_q2
    replace h_q4 := W_w15.here
    replace h_q6 := keep_wrote h_q6 W_w15 n_q4_q6
    replace o_x13 := own_wrote o_x13 W_w15 d_x13_q4
    replace hB := below_wrote hB hB.size W_w15 g_q4.le
    clear W_w15
    refine q_eff rfl rfl ?_
    refine g_storeB rfl (((p16.ne rfl).trans ((p15.ne rfl).trans (p14.ne rfl))).trans s3) s20 Try.sizeOf40 rfl rfl h_q6 rfl ?_
    intro w16 W_w16
    replace h_q2 := keep_wrote h_q2 W_w16 n_q6_q2
    replace h_q4 := keep_wrote h_q4 W_w16 n_q6_q4
    replace h_q6 := W_w16.here
    replace o_x13 := own_wrote o_x13 W_w16 d_x13_q6
    replace hB := below_wrote hB hB.size W_w16 g_q6.le
    clear W_w16
    refine q_val rfl rfl ?_
    refine g_assign rfl rfl ?_
    intro a17 p17
    have s4 : a17.eval (.tmp 4) = .bool false := p17.at hs (by decide)
    replace hs := p17.st hs
    refine wpList_nil ?_
    replace s1 : a17.eval (.tmp 1) = .pointer (some ⟨q2, 0, none⟩) := ((p17.ne rfl).trans ((p16.ne rfl).trans ((p15.ne rfl).trans (p14.ne rfl)))).trans s1
    replace s2 : a17.eval (.tmp 2) = .pointer (some ⟨q4, 0, none⟩) := ((p17.ne rfl).trans ((p16.ne rfl).trans ((p15.ne rfl).trans (p14.ne rfl)))).trans s2
    replace s3 : a17.eval (.tmp 3) = .pointer (some ⟨q6, 0, none⟩) := ((p17.ne rfl).trans ((p16.ne rfl).trans ((p15.ne rfl).trans (p14.ne rfl)))).trans s3
    refine hK12 _ _ ?_
    clear hK12
    refine wp_ret ?_
    try dsimp only [Exit.then, Exit.inBlock]
    refine ret3 hs Try.results26 (res_cell s2 h_q4 Try.isAgg28 Try.sizeOf28 rfl) (res_cell s3 h_q6 Try.isAgg40 Try.sizeOf40 rfl) (res_tmp s4) ?_
    have htf : tfOk ch ct rest ds = false := by unfold tfOk; rw [h1, Bool.false_and]
    obtain ⟨tf1, tf2, tf3, tf4⟩ := tf_no htf
    rw [htf, tf1, tf2, tf3, tf4]
    exact ⟨_, _, _, rfl, rfl, o_x13, hB⟩
  · replace s10 := s10.trans (congrArg Value.bool h1)
    replace s10 : a6.eval (.tmp 10) = .bool true := s10
    replace s11 := s11.trans (congrArg (fun b => Value.bool (!b)) h1)
    replace s11 : a7.eval (.tmp 11) = .bool false := s11
    replace s12 := s12.trans (congrArg (fun b => Value.bool (!b)) h1)
    replace s12 : a8.eval (.tmp 12) = .bool false := s12
    refine q_take rfl rfl s12 rfl ?_
    refine g_field (r := 2) rfl (((p8.ne rfl).trans ((p7.ne rfl).trans ((p6.ne rfl).trans (p5.ne rfl)))).trans s1) Try.underlying28 rfl (fun w => Try.sizeOf9 w) rfl rfl ?_
    intro a9 p9
    have s13 : a9.eval (.tmp 13) = .pointer (some ⟨q2, 2, none⟩) := p9.at hs (by decide)
    replace hs := p9.st hs
    refine q_take rfl rfl ((p9.ne rfl).trans s12) rfl ?_
    refine g_load rfl s13 Try.isAgg9 (box_cell h_q2 rfl) ?_
    intro a10 p10
    have s14 : a10.eval (.tmp 14) = .string ⟨(rest).toArray⟩ := p10.at hs (by decide)
    replace hs := p10.st hs
    refine q_take rfl rfl (((p10.ne rfl).trans (p9.ne rfl)).trans s12) rfl ?_
    refine g_lenS rfl Try.underlying9 s14 ?_
    intro a11 p11
    have s15 : a11.eval (.tmp 15) = .int .i64 (((rest).length : Nat) : Int) := p11.at hs (by decide)
    replace hs := p11.st hs
    refine q_take rfl rfl (((p11.ne rfl).trans ((p10.ne rfl).trans (p9.ne rfl))).trans s12) rfl ?_
    refine g_lss rfl s15 rfl ?_
    intro a12 p12
    have s16 : a12.eval (.tmp 16) = .bool (decide ((((rest).length : Nat) : Int) < 24)) := p12.at hs (by decide)
    replace hs := p12.st hs
    refine q_val rfl rfl ?_
    refine g_pick_f rfl (((p12.ne rfl).trans ((p11.ne rfl).trans ((p10.ne rfl).trans (p9.ne rfl)))).trans s12) s16 ?_
    intro a13 p13
    have s17 : a13.eval (.tmp 17) = .bool (decide ((((rest).length : Nat) : Int) < 24)) := p13.at hs (by decide)
    replace hs := p13.st hs
    refine wpList_nil ?_
    replace s1 : a13.eval (.tmp 1) = .pointer (some ⟨q2, 0, none⟩) := ((p13.ne rfl).trans ((p12.ne rfl).trans ((p11.ne rfl).trans ((p10.ne rfl).trans ((p9.ne rfl).trans ((p8.ne rfl).trans ((p7.ne rfl).trans ((p6.ne rfl).trans (p5.ne rfl))))))))).trans s1
    replace s2 : a13.eval (.tmp 2) = .pointer (some ⟨q4, 0, none⟩) := ((p13.ne rfl).trans ((p12.ne rfl).trans ((p11.ne rfl).trans ((p10.ne rfl).trans ((p9.ne rfl).trans ((p8.ne rfl).trans ((p7.ne rfl).trans ((p6.ne rfl).trans (p5.ne rfl))))))))).trans s2
    replace s3 : a13.eval (.tmp 3) = .pointer (some ⟨q6, 0, none⟩) := ((p13.ne rfl).trans ((p12.ne rfl).trans ((p11.ne rfl).trans ((p10.ne rfl).trans ((p9.ne rfl).trans ((p8.ne rfl).trans ((p7.ne rfl).trans ((p6.ne rfl).trans (p5.ne rfl))))))))).trans s3
    replace s4 : a13.eval (.tmp 4) = .bool false := ((p13.ne rfl).trans ((p12.ne rfl).trans ((p11.ne rfl).trans ((p10.ne rfl).trans ((p9.ne rfl).trans ((p8.ne rfl).trans ((p7.ne rfl).trans ((p6.ne rfl).trans (p5.ne rfl))))))))).trans s4
    refine hK9 _ _ ?_
    clear hK9
    by_cases h2 : (((rest).length : Nat) : Int) < 24
    · replace s17 := s17.trans (congrArg Value.bool (decide_eq_true h2))
      replace s17 : a13.eval (.tmp 17) = .bool true := s17
      refine c_true s17 ?_
      refine wp_seq_k fun K17 hK17 => ?_
      refine wp_region_lit ?_
      refine q_val rfl rfl ?_
      refine g_loadB rfl s1 Try.isAgg28 Try.sizeOf28 rfl h_q2 ?_
      intro a14 p14
      have s18 : a14.eval (.tmp 18) = .agg #[.int .i64 ch, .int .i64 ct, .string ⟨(rest).toArray⟩, .slice B ds.length dp] := p14.at hs (by decide)
      replace hs := p14.st hs
      refine q_val rfl rfl ?_
      refine g_call rfl rfl Try.call35 (arr1 s18) ?_
      refine (clonePacker_any _ _ _ _ _ _ ds _ (by unfold Txt; omega) rfl (by omega) hnn_d (hr_d.below hB)).mono ?_
      rintro e w19 ⟨A18, c18, rfl, o_x18, hb18⟩
      refine ⟨_, rfl, ?_⟩
      have d_x18_q2 := own_ne_box o_x18 (lt_of_block h_q2)
      have d_x18_q4 := own_ne_box o_x18 (lt_of_block h_q4)
      have d_x18_q6 := own_ne_box o_x18 (lt_of_block h_q6)
      have g_x18 : ∀ b, (A18 : Option Addr).map (·.block) = some b → w.heap.size ≤ b := fun b h => Nat.le_trans hB.size (own_row o_x18 b h).1
      replace o_x18 := own_base (base := w.heap.size) o_x18 hB.size
      replace h_q2 := keep_below h_q2 hb18
      replace h_q4 := keep_below h_q4 hb18
      replace h_q6 := keep_below h_q6 hb18
      replace hB := hB.trans (hb18.mono hB.size)
      clear hb18
      intro a15 p15
      have s19 : a15.eval (.tmp 19) = .agg #[.int .i64 ch, .int .i64 ct, .string ⟨(rest).toArray⟩, .slice A18 ds.length c18] := p15.at hs (by decide)
      replace hs := p15.st hs
      refine q_val rfl rfl ?_
      refine g_build (cells := #[.int .i64 0, .int .i64 0, .int .i64 0, .string ⟨#[]⟩]) rfl (arrB0 ) (by kernel_rfl) ?_
      intro a16 p16
      have s20 : a16.eval (.tmp 20) = .agg #[.int .i64 0, .int .i64 0, .int .i64 0, .string ⟨#[]⟩] := p16.at hs (by decide)
      replace hs := p16.st hs
      refine q_eff rfl rfl ?_
      refine g_storeB rfl (((p16.ne rfl).trans ((p15.ne rfl).trans (p14.ne rfl))).trans s2) ((p16.ne rfl).trans s19) Try.sizeOf28 rfl rfl h_q4 rfl ?_
      intro w20 W_w20
      replace h_q2 := keep_wrote h_q2 W_w20 n_q4_q2
      replace h_q4 := W_w20.here
      replace h_q6 := keep_wrote h_q6 W_w20 n_q4_q6
      replace o_x18 := own_wrote o_x18 W_w20 d_x18_q4
      replace hB := below_wrote hB hB.size W_w20 g_q4.le
      clear W_w20
      refine q_eff rfl rfl ?_
      refine g_storeB rfl (((p16.ne rfl).trans ((p15.ne rfl).trans (p14.ne rfl))).trans s3) s20 Try.sizeOf40 rfl rfl h_q6 rfl ?_
      intro w21 W_w21
      replace h_q2 := keep_wrote h_q2 W_w21 n_q6_q2
      replace h_q4 := keep_wrote h_q4 W_w21 n_q6_q4
      replace h_q6 := W_w21.here
      replace o_x18 := own_wrote o_x18 W_w21 d_x18_q6
      replace hB := below_wrote hB hB.size W_w21 g_q6.le
      clear W_w21
      refine q_val rfl rfl ?_
      refine g_assign rfl rfl ?_
      intro a17 p17
      have s4 : a17.eval (.tmp 4) = .bool false := p17.at hs (by decide)
      replace hs := p17.st hs
      refine wpList_nil ?_
      replace s1 : a17.eval (.tmp 1) = .pointer (some ⟨q2, 0, none⟩) := ((p17.ne rfl).trans ((p16.ne rfl).trans ((p15.ne rfl).trans (p14.ne rfl)))).trans s1
      replace s2 : a17.eval (.tmp 2) = .pointer (some ⟨q4, 0, none⟩) := ((p17.ne rfl).trans ((p16.ne rfl).trans ((p15.ne rfl).trans (p14.ne rfl)))).trans s2
      replace s3 : a17.eval (.tmp 3) = .pointer (some ⟨q6, 0, none⟩) := ((p17.ne rfl).trans ((p16.ne rfl).trans ((p15.ne rfl).trans (p14.ne rfl)))).trans s3
      refine hK17 _ _ ?_
      clear hK17
      refine wp_ret ?_
      try dsimp only [Exit.then, Exit.inBlock]
      refine ret3 hs Try.results26 (res_cell s2 h_q4 Try.isAgg28 Try.sizeOf28 rfl) (res_cell s3 h_q6 Try.isAgg40 Try.sizeOf40 rfl) (res_tmp s4) ?_
      have htf : tfOk ch ct rest ds = false := by unfold tfOk; rw [decide_eq_false (by omega : ¬ 24 ≤ rest.length), Bool.and_false]
      obtain ⟨tf1, tf2, tf3, tf4⟩ := tf_no htf
      rw [htf, tf1, tf2, tf3, tf4]
      exact ⟨_, _, _, rfl, rfl, o_x18, hB⟩
    · replace s17 := s17.trans (congrArg Value.bool (decide_eq_false h2))
      replace s17 : a13.eval (.tmp 17) = .bool false := s17
      refine c_false s17 ?_
      refine wp_skip ?_
      refine hK8 _ _ ?_
      clear hK8
      refine wp_seq_k fun K22 hK22 => ?_
      obtain ⟨⟨hp1, hp2⟩, ⟨hp3, hp4⟩, hp5, hp6⟩ := pkrOk_parts h1
      have htf : tfOk ch ct rest ds = true := by unfold tfOk; rw [h1, decide_eq_true (by omega)]; rfl
      obtain ⟨tf1, tf2, tf3, tf4⟩ := tf_yes htf
      refine wp_drawn (n := 74) [] [9] [] (fun k_ v_ wx => match k_ with | 0 => v_ = .pointer (some ⟨q2, 0, none⟩) | 1 => v_ = .int .i64 ch | 2 => v_ = .pointer (some ⟨q2, 1, none⟩) | 3 => v_ = .int .i64 ct | 4 => v_ = .pointer (some ⟨q2, 2, none⟩) | 5 => v_ = .string ⟨(rest).toArray⟩ | 6 => v_ = .string ⟨(rest.take 24).toArray⟩ | 7 => v_ = .agg #[.int .i64 ch, .int .i64 ct, .int .i64 255, .string ⟨(rest.take 24).toArray⟩] | 8 => ∃ q23, v_ = .pointer (some ⟨q23, 0, none⟩) ∧ w11.heap.size ≤ q23 ∧ wx.heap[q23]? = some (.cells #[.int .i64 0, .int .i64 0, .int .i64 0, .string ⟨#[]⟩] 40 (0, 0)) | _ => True) (by kernel_rfl) (by kernel_rfl) (by kernel_rfl) (by kernel_rfl) hs.size ?_ ?_ ?_
      · intro i v wa wb hb hr
        rcases i with _ | _ | _ | _ | _ | _ | _ | _ | _ | _ | i
        · exact hr
        · exact hr
        · exact hr
        · exact hr
        · exact hr
        · exact hr
        · exact hr
        · exact hr
        · obtain ⟨q23, hr, hg, hh⟩ := hr; exact ⟨q23, hr, hg, keep_below hh hb⟩
        · trivial
        · trivial
      · refine d_step rfl rfl ?_ (d_step rfl rfl ?_ (d_step rfl rfl ?_ (d_step rfl rfl ?_ (d_step rfl rfl ?_ (d_step rfl rfl ?_ (d_step rfl rfl ?_ (d_step rfl rfl ?_ (d_step rfl rfl ?_ (d_chain rfl (d_nil))))))))))
        · intro xv_ wx ρ hρ hwx hd K hK
          have e1 : ρ (.tmp 1) = .pointer (some ⟨q2, 0, none⟩) := (hρ.inn 1 rfl).trans s1
          refine g_field (r := 0) rfl e1 Try.underlying28 rfl (fun w => Try.sizeOf3 w) rfl rfl ?_
          exact hK _ _ (Below.refl _ _) rfl
        · intro xv_ wx ρ hρ hwx hd K hK
          obtain r0 : xv_ 0 = .pointer (some ⟨q2, 0, none⟩) := hd 0 rfl
          have e21 : ρ (.tmp 21) = .pointer (some ⟨q2, 0, none⟩) := (hρ.out 0 21 rfl (by rw [hs.size]; decide) rfl).trans r0
          have h_q2 := keep_below h_q2 hwx
          refine g_load rfl e21 Try.isAgg3 (box_cell h_q2 rfl) ?_
          exact hK _ _ (Below.refl _ _) rfl
        · intro xv_ wx ρ hρ hwx hd K hK
          have e1 : ρ (.tmp 1) = .pointer (some ⟨q2, 0, none⟩) := (hρ.inn 1 rfl).trans s1
          refine g_field (r := 1) rfl e1 Try.underlying28 rfl (fun w => Try.sizeOf3 w) rfl rfl ?_
          exact hK _ _ (Below.refl _ _) rfl
        · intro xv_ wx ρ hρ hwx hd K hK
          obtain r2 : xv_ 2 = .pointer (some ⟨q2, 1, none⟩) := hd 2 rfl
          have e23 : ρ (.tmp 23) = .pointer (some ⟨q2, 1, none⟩) := (hρ.out 2 23 rfl (by rw [hs.size]; decide) rfl).trans r2
          have h_q2 := keep_below h_q2 hwx
          refine g_load rfl e23 Try.isAgg3 (box_cell h_q2 rfl) ?_
          exact hK _ _ (Below.refl _ _) rfl
        · intro xv_ wx ρ hρ hwx hd K hK
          have e1 : ρ (.tmp 1) = .pointer (some ⟨q2, 0, none⟩) := (hρ.inn 1 rfl).trans s1
          refine g_field (r := 2) rfl e1 Try.underlying28 rfl (fun w => Try.sizeOf9 w) rfl rfl ?_
          exact hK _ _ (Below.refl _ _) rfl
        · intro xv_ wx ρ hρ hwx hd K hK
          obtain r4 : xv_ 4 = .pointer (some ⟨q2, 2, none⟩) := hd 4 rfl
          have e25 : ρ (.tmp 25) = .pointer (some ⟨q2, 2, none⟩) := (hρ.out 4 25 rfl (by rw [hs.size]; decide) rfl).trans r4
          have h_q2 := keep_below h_q2 hwx
          refine g_load rfl e25 Try.isAgg9 (box_cell h_q2 rfl) ?_
          exact hK _ _ (Below.refl _ _) rfl
        · intro xv_ wx ρ hρ hwx hd K hK
          obtain r5 : xv_ 5 = .string ⟨(rest).toArray⟩ := hd 5 rfl
          have e26 : ρ (.tmp 26) = .string ⟨(rest).toArray⟩ := (hρ.out 5 26 rfl (by rw [hs.size]; decide) rfl).trans r5
          refine g_headS (N := 24) rfl e26 ((hρ.cst _)) Try.underlying9 (by omega) ?_
          exact hK _ _ (Below.refl _ _) rfl
        · intro xv_ wx ρ hρ hwx hd K hK
          obtain r1 : xv_ 1 = .int .i64 ch := hd 1 rfl
          have e22 : ρ (.tmp 22) = .int .i64 ch := (hρ.out 1 22 rfl (by rw [hs.size]; decide) rfl).trans r1
          obtain r3 : xv_ 3 = .int .i64 ct := hd 3 rfl
          have e24 : ρ (.tmp 24) = .int .i64 ct := (hρ.out 3 24 rfl (by rw [hs.size]; decide) rfl).trans r3
          obtain r6 : xv_ 6 = .string ⟨(rest.take 24).toArray⟩ := hd 6 rfl
          have e27 : ρ (.tmp 27) = .string ⟨(rest.take 24).toArray⟩ := (hρ.out 6 27 rfl (by rw [hs.size]; decide) rfl).trans r6
          refine g_build (cells := #[.int .i64 ch, .int .i64 ct, .int .i64 255, .string ⟨(rest.take 24).toArray⟩]) rfl (arrB4 e22 e24 ((hρ.cst _)) e27) (by kernel_rfl) ?_
          exact hK _ _ (Below.refl _ _) rfl
        · intro xv_ wx ρ hρ hwx hd K hK
          refine g_alloc rfl Try.zeroValue40 rfl ?_
          intro q w' N
          exact hK _ _ N.below ⟨q, rfl, Nat.le_trans hwx.size N.lo, N.here⟩
      · intro x0_ w24 hb_w24 hr0
        obtain r0 : x0_ 0 = .pointer (some ⟨q2, 0, none⟩) := hr0 0 (by decide) rfl rfl
        obtain r1 : x0_ 1 = .int .i64 ch := hr0 1 (by decide) rfl rfl
        obtain r2 : x0_ 2 = .pointer (some ⟨q2, 1, none⟩) := hr0 2 (by decide) rfl rfl
        obtain r3 : x0_ 3 = .int .i64 ct := hr0 3 (by decide) rfl rfl
        obtain r4 : x0_ 4 = .pointer (some ⟨q2, 2, none⟩) := hr0 4 (by decide) rfl rfl
        obtain r5 : x0_ 5 = .string ⟨(rest).toArray⟩ := hr0 5 (by decide) rfl rfl
        obtain r6 : x0_ 6 = .string ⟨(rest.take 24).toArray⟩ := hr0 6 (by decide) rfl rfl
        obtain r7 : x0_ 7 = .agg #[.int .i64 ch, .int .i64 ct, .int .i64 255, .string ⟨(rest.take 24).toArray⟩] := hr0 7 (by decide) rfl rfl
        obtain ⟨q23, r8, g0_q23, h_q23⟩ : ∃ q23, x0_ 8 = .pointer (some ⟨q23, 0, none⟩) ∧ w11.heap.size ≤ q23 ∧ w24.heap[q23]? = some (.cells #[.int .i64 0, .int .i64 0, .int .i64 0, .string ⟨#[]⟩] 40 (0, 0)) := hr0 8 (by decide) rfl rfl
        clear hr0
        have n_q2_q23 : NeB q2 q23 := ⟨fun e => by have := lt_of_block h_q2; omega⟩
        have n_q23_q2 := n_q2_q23.symm
        have n_q4_q23 : NeB q4 q23 := ⟨fun e => by have := lt_of_block h_q4; omega⟩
        have n_q23_q4 := n_q4_q23.symm
        have n_q6_q23 : NeB q6 q23 := ⟨fun e => by have := lt_of_block h_q6; omega⟩
        have n_q23_q6 := n_q6_q23.symm
        have g_q23 : GeB w.heap.size q23 := ⟨Nat.le_trans hB.size g0_q23⟩
        clear g0_q23
        replace h_q2 := keep_below h_q2 hb_w24
        replace h_q4 := keep_below h_q4 hb_w24
        replace h_q6 := keep_below h_q6 hb_w24
        replace hB := hB.trans (hb_w24.mono hB.size)
        clear hb_w24
        intro op_ ho_ xv_ ρ hρ qx_ ql_ qk_
        obtain rfl := Option.some.inj ho_
        clear ho_
        have e5 : ρ (.tmp 5) = .pointer (some ⟨q23, 0, none⟩) := (hρ.out 8 5 rfl (by rw [hs.size]; decide) rfl).trans ((qx_ 8 (by decide) rfl rfl).trans r8)
        have e28 : ρ (.tmp 28) = .agg #[.int .i64 ch, .int .i64 ct, .int .i64 255, .string ⟨(rest.take 24).toArray⟩] := (hρ.out 7 28 rfl (by rw [hs.size]; decide) rfl).trans ((qx_ 7 (by decide) rfl rfl).trans r7)
        refine g_storeB rfl e5 e28 Try.sizeOf40 rfl rfl h_q23 rfl ?_
        intro w25 W_w25
        replace h_q2 := keep_wrote h_q2 W_w25 n_q23_q2
        replace h_q4 := keep_wrote h_q4 W_w25 n_q23_q4
        replace h_q6 := keep_wrote h_q6 W_w25 n_q23_q6
        replace h_q23 := W_w25.here
        replace hB := below_wrote hB hB.size W_w25 g_q23.le
        clear W_w25
        clear e28 e5
        clear hρ qx_ ql_ qk_
        intro xv_ a14 hρ hsz hdf qx_ ql_ qk_ qlk_
        replace s1 : a14.eval (.tmp 1) = .pointer (some ⟨q2, 0, none⟩) := (hρ.inn 1 rfl).trans s1
        replace s2 : a14.eval (.tmp 2) = .pointer (some ⟨q4, 0, none⟩) := (hρ.inn 2 rfl).trans s2
        replace s3 : a14.eval (.tmp 3) = .pointer (some ⟨q6, 0, none⟩) := (hρ.inn 3 rfl).trans s3
        replace s4 : a14.eval (.tmp 4) = .bool false := (hρ.inn 4 rfl).trans s4
        have s5 : a14.eval (.tmp 5) = .pointer (some ⟨q23, 0, none⟩) := (hρ.out 8 5 rfl (by rw [hs.size]; decide)).trans ((qx_ 8 (by decide) rfl rfl).trans r8)
        replace hs : St 74 a14 := ⟨hsz.trans hs.size, hdf.trans hs.nodef⟩
        clear hρ hsz hdf qx_ ql_ qk_ qlk_
        refine hK22 _ _ ?_
        clear hK22
        refine wp_seq_k fun K26 hK26 => ?_
        refine wp_seq_k fun K27 hK27 => ?_
        refine wp_region_lit ?_
        refine q_val rfl rfl ?_
        refine g_field (r := 3) rfl s1 Try.underlying28 rfl (fun w => Try.sizeOf26 w) rfl rfl ?_
        intro a15 p15
        have s29 : a15.eval (.tmp 29) = .pointer (some ⟨q2, 3, none⟩) := p15.at hs (by decide)
        replace hs := p15.st hs
        refine q_val rfl rfl ?_
        refine g_load rfl s29 Try.isAgg26 (box_cell h_q2 rfl) ?_
        intro a16 p16
        have s30 : a16.eval (.tmp 30) = .slice B ds.length dp := p16.at hs (by decide)
        replace hs := p16.st hs
        refine q_val rfl rfl ?_
        refine g_len (e := _) rfl Try.underlying26 s30 ?_
        intro a17 p17
        have s31 : a17.eval (.tmp 31) = .int .i64 ((ds.length : Nat) : Int) := p17.at hs (by decide)
        replace hs := p17.st hs
        refine q_val rfl rfl ?_
        refine g_gtr rfl s31 rfl ?_
        intro a18 p18
        have s32 : a18.eval (.tmp 32) = .bool (decide (0 < ((ds.length : Nat) : Int))) := p18.at hs (by decide)
        replace hs := p18.st hs
        refine q_val rfl rfl ?_
        refine g_move rfl s32 ?_
        intro a19 p19
        have s33 : a19.eval (.tmp 33) = .bool (decide (0 < ((ds.length : Nat) : Int))) := p19.at hs (by decide)
        replace hs := p19.st hs
        by_cases h3 : 0 < ((ds.length : Nat) : Int)
        · replace s32 := s32.trans (congrArg Value.bool (decide_eq_true h3))
          replace s32 : a18.eval (.tmp 32) = .bool true := s32
          replace s33 := s33.trans (congrArg Value.bool (decide_eq_true h3))
          replace s33 : a19.eval (.tmp 33) = .bool true := s33
          refine q_take rfl rfl s33 rfl ?_
          refine g_field (r := 3) rfl (((p19.ne rfl).trans ((p18.ne rfl).trans ((p17.ne rfl).trans ((p16.ne rfl).trans (p15.ne rfl))))).trans s1) Try.underlying28 rfl (fun w => Try.sizeOf26 w) rfl rfl ?_
          intro a20 p20
          have s34 : a20.eval (.tmp 34) = .pointer (some ⟨q2, 3, none⟩) := p20.at hs (by decide)
          replace hs := p20.st hs
          refine q_take rfl rfl ((p20.ne rfl).trans s33) rfl ?_
          refine g_load rfl s34 Try.isAgg26 (box_cell h_q2 rfl) ?_
          intro a21 p21
          have s35 : a21.eval (.tmp 35) = .slice B ds.length dp := p21.at hs (by decide)
          replace hs := p21.st hs
          obtain ⟨b28, o29, hA30, hl_hc31, hc31⟩ := Rd.get cI_len (hr_d.below hB) rfl (i := 0) (by omega)
          refine q_take rfl rfl (((p21.ne rfl).trans (p20.ne rfl)).trans s33) rfl ?_
          refine g_index (r := o29 + 0 * 1) (k := 0) rfl (s35.trans (slice_at hA30)) rfl Try.underlying26 (fun w => Try.sizeOf3 w) (by omega) rfl ?_
          intro a22 p22
          have s36 : a22.eval (.tmp 36) = .pointer (some ⟨b28, o29 + 0 * 1, none⟩) := p22.at hs (by decide)
          replace hs := p22.st hs
          refine q_take rfl rfl (((p22.ne rfl).trans ((p21.ne rfl).trans (p20.ne rfl))).trans s33) rfl ?_
          refine g_load rfl s36 Try.isAgg3 (by first | exact hc31 0 _ (by decide) rfl | (rw [Nat.add_assoc]; exact hc31 0 _ (by decide) rfl)) ?_
          intro a23 p23
          have s37 : a23.eval (.tmp 37) = .int .i64 ds[0] := p23.at hs (by decide)
          replace hs := p23.st hs
          refine q_take rfl rfl (((p23.ne rfl).trans ((p22.ne rfl).trans ((p21.ne rfl).trans (p20.ne rfl)))).trans s33) rfl ?_
          refine g_lss rfl s37 rfl ?_
          intro a24 p24
          have s38 : a24.eval (.tmp 38) = .bool (decide (ds[0] < 24)) := p24.at hs (by decide)
          replace hs := p24.st hs
          refine q_val rfl rfl ?_
          refine g_pick_t rfl (((p24.ne rfl).trans ((p23.ne rfl).trans ((p22.ne rfl).trans ((p21.ne rfl).trans (p20.ne rfl))))).trans s33) s38 ?_
          intro a25 p25
          have s39 : a25.eval (.tmp 39) = .bool (decide (ds[0] < 24)) := p25.at hs (by decide)
          replace hs := p25.st hs
          refine wpList_nil ?_
          replace s1 : a25.eval (.tmp 1) = .pointer (some ⟨q2, 0, none⟩) := ((p25.ne rfl).trans ((p24.ne rfl).trans ((p23.ne rfl).trans ((p22.ne rfl).trans ((p21.ne rfl).trans ((p20.ne rfl).trans ((p19.ne rfl).trans ((p18.ne rfl).trans ((p17.ne rfl).trans ((p16.ne rfl).trans (p15.ne rfl))))))))))).trans s1
          replace s2 : a25.eval (.tmp 2) = .pointer (some ⟨q4, 0, none⟩) := ((p25.ne rfl).trans ((p24.ne rfl).trans ((p23.ne rfl).trans ((p22.ne rfl).trans ((p21.ne rfl).trans ((p20.ne rfl).trans ((p19.ne rfl).trans ((p18.ne rfl).trans ((p17.ne rfl).trans ((p16.ne rfl).trans (p15.ne rfl))))))))))).trans s2
          replace s3 : a25.eval (.tmp 3) = .pointer (some ⟨q6, 0, none⟩) := ((p25.ne rfl).trans ((p24.ne rfl).trans ((p23.ne rfl).trans ((p22.ne rfl).trans ((p21.ne rfl).trans ((p20.ne rfl).trans ((p19.ne rfl).trans ((p18.ne rfl).trans ((p17.ne rfl).trans ((p16.ne rfl).trans (p15.ne rfl))))))))))).trans s3
          replace s4 : a25.eval (.tmp 4) = .bool false := ((p25.ne rfl).trans ((p24.ne rfl).trans ((p23.ne rfl).trans ((p22.ne rfl).trans ((p21.ne rfl).trans ((p20.ne rfl).trans ((p19.ne rfl).trans ((p18.ne rfl).trans ((p17.ne rfl).trans ((p16.ne rfl).trans (p15.ne rfl))))))))))).trans s4
          replace s5 : a25.eval (.tmp 5) = .pointer (some ⟨q23, 0, none⟩) := ((p25.ne rfl).trans ((p24.ne rfl).trans ((p23.ne rfl).trans ((p22.ne rfl).trans ((p21.ne rfl).trans ((p20.ne rfl).trans ((p19.ne rfl).trans ((p18.ne rfl).trans ((p17.ne rfl).trans ((p16.ne rfl).trans (p15.ne rfl))))))))))).trans s5
          refine hK27 _ _ ?_
          clear hK27
          by_cases h4 : ds[0] < 24
          · replace s39 := s39.trans (congrArg Value.bool (decide_eq_true h4))
            replace s39 : a25.eval (.tmp 39) = .bool true := s39
            refine c_true s39 ?_
            refine wp_region_lit ?_
            refine q_val rfl rfl ?_
            refine g_field (r := 3) rfl s1 Try.underlying28 rfl (fun w => Try.sizeOf26 w) rfl rfl ?_
            intro a26 p26
            have s40 : a26.eval (.tmp 40) = .pointer (some ⟨q2, 3, none⟩) := p26.at hs (by decide)
            replace hs := p26.st hs
            refine q_val rfl rfl ?_
            refine g_load rfl s40 Try.isAgg26 (box_cell h_q2 rfl) ?_
            intro a27 p27
            have s41 : a27.eval (.tmp 41) = .slice B ds.length dp := p27.at hs (by decide)
            replace hs := p27.st hs
            obtain ⟨b32, o33, hA34, hl_hc35, hc35⟩ := Rd.get cI_len (hr_d.below hB) rfl (i := 0) (by omega)
            refine q_val rfl rfl ?_
            refine g_index (r := o33 + 0 * 1) (k := 0) rfl (s41.trans (slice_at hA34)) rfl Try.underlying26 (fun w => Try.sizeOf3 w) (by omega) rfl ?_
            intro a28 p28
            have s42 : a28.eval (.tmp 42) = .pointer (some ⟨b32, o33 + 0 * 1, none⟩) := p28.at hs (by decide)
            replace hs := p28.st hs
            refine q_val rfl rfl ?_
            refine g_load rfl s42 Try.isAgg3 (by first | exact hc35 0 _ (by decide) rfl | (rw [Nat.add_assoc]; exact hc35 0 _ (by decide) rfl)) ?_
            intro a29 p29
            have s43 : a29.eval (.tmp 43) = .int .i64 ds[0] := p29.at hs (by decide)
            replace hs := p29.st hs
            refine q_val rfl rfl ?_
            refine g_field (r := 2) rfl (((p29.ne rfl).trans ((p28.ne rfl).trans ((p27.ne rfl).trans (p26.ne rfl)))).trans s5) Try.underlying40 rfl (fun w => Try.sizeOf3 w) rfl rfl ?_
            intro a30 p30
            have s44 : a30.eval (.tmp 44) = .pointer (some ⟨q23, 2, none⟩) := p30.at hs (by decide)
            replace hs := p30.st hs
            refine q_eff rfl rfl ?_
            refine g_store (cs' := #[.int .i64 ch, .int .i64 ct, .int .i64 ds[0], .string ⟨(rest.take 24).toArray⟩]) rfl s44 ((p30.ne rfl).trans s43) Try.sizeOf3 rfl h_q23 (Nat.le_of_ble_eq_true rfl) rfl ?_
            intro w36 W_w36
            replace h_q2 := keep_wrote h_q2 W_w36 n_q23_q2
            replace h_q4 := keep_wrote h_q4 W_w36 n_q23_q4
            replace h_q6 := keep_wrote h_q6 W_w36 n_q23_q6
            replace h_q23 := W_w36.here
            replace hB := below_wrote hB hB.size W_w36 g_q23.le
            clear W_w36
            refine wpList_nil ?_
            replace s1 : a30.eval (.tmp 1) = .pointer (some ⟨q2, 0, none⟩) := ((p30.ne rfl).trans ((p29.ne rfl).trans ((p28.ne rfl).trans ((p27.ne rfl).trans (p26.ne rfl))))).trans s1
            replace s2 : a30.eval (.tmp 2) = .pointer (some ⟨q4, 0, none⟩) := ((p30.ne rfl).trans ((p29.ne rfl).trans ((p28.ne rfl).trans ((p27.ne rfl).trans (p26.ne rfl))))).trans s2
            replace s3 : a30.eval (.tmp 3) = .pointer (some ⟨q6, 0, none⟩) := ((p30.ne rfl).trans ((p29.ne rfl).trans ((p28.ne rfl).trans ((p27.ne rfl).trans (p26.ne rfl))))).trans s3
            replace s4 : a30.eval (.tmp 4) = .bool false := ((p30.ne rfl).trans ((p29.ne rfl).trans ((p28.ne rfl).trans ((p27.ne rfl).trans (p26.ne rfl))))).trans s4
            replace s5 : a30.eval (.tmp 5) = .pointer (some ⟨q23, 0, none⟩) := ((p30.ne rfl).trans ((p29.ne rfl).trans ((p28.ne rfl).trans ((p27.ne rfl).trans (p26.ne rfl))))).trans s5
            refine hK26 _ _ ?_
            clear hK26
            refine wp_seq_k fun K37 hK37 => ?_
            refine wp_drawn (n := 74) [] [11] [] (fun k_ v_ wx => match k_ with | 0 => v_ = .pointer (some ⟨q2, 0, none⟩) | 1 => v_ = .int .i64 ch | 2 => v_ = .pointer (some ⟨q2, 1, none⟩) | 3 => v_ = .int .i64 ct | 4 => v_ = .int .i64 (ct + 1) | 5 => v_ = .int .i64 ((ct + 1) % 256) | 6 => v_ = .pointer (some ⟨q2, 2, none⟩) | 7 => v_ = .string ⟨(rest).toArray⟩ | 8 => v_ = .string ⟨(rest.drop 24).toArray⟩ | 9 => v_ = .agg #[.int .i64 ch, .int .i64 ((ct + 1) % 256), .string ⟨(rest.drop 24).toArray⟩, .slice none 0 0] | 10 => ∃ q38, v_ = .pointer (some ⟨q38, 0, none⟩) ∧ w36.heap.size ≤ q38 ∧ wx.heap[q38]? = some (.cells #[.int .i64 0, .int .i64 0, .string ⟨#[]⟩, .slice none 0 0] 28 (0, 0)) | _ => True) (by kernel_rfl) (by kernel_rfl) (by kernel_rfl) (by kernel_rfl) hs.size ?_ ?_ ?_
            · intro i v wa wb hb hr
              rcases i with _ | _ | _ | _ | _ | _ | _ | _ | _ | _ | _ | _ | i
              · exact hr
              · exact hr
              · exact hr
              · exact hr
              · exact hr
              · exact hr
              · exact hr
              · exact hr
              · exact hr
              · exact hr
              · obtain ⟨q38, hr, hg, hh⟩ := hr; exact ⟨q38, hr, hg, keep_below hh hb⟩
              · trivial
              · trivial
            · refine d_step rfl rfl ?_ (d_step rfl rfl ?_ (d_step rfl rfl ?_ (d_step rfl rfl ?_ (d_step rfl rfl ?_ (d_step rfl rfl ?_ (d_step rfl rfl ?_ (d_step rfl rfl ?_ (d_step rfl rfl ?_ (d_step rfl rfl ?_ (d_step rfl rfl ?_ (d_chain rfl (d_nil))))))))))))
              · intro xv_ wx ρ hρ hwx hd K hK
                have e1 : ρ (.tmp 1) = .pointer (some ⟨q2, 0, none⟩) := (hρ.inn 1 rfl).trans s1
                refine g_field (r := 0) rfl e1 Try.underlying28 rfl (fun w => Try.sizeOf3 w) rfl rfl ?_
                exact hK _ _ (Below.refl _ _) rfl
              · intro xv_ wx ρ hρ hwx hd K hK
                obtain r0 : xv_ 0 = .pointer (some ⟨q2, 0, none⟩) := hd 0 rfl
                have e45 : ρ (.tmp 45) = .pointer (some ⟨q2, 0, none⟩) := (hρ.out 0 45 rfl (by rw [hs.size]; decide) rfl).trans r0
                have h_q2 := keep_below h_q2 hwx
                refine g_load rfl e45 Try.isAgg3 (box_cell h_q2 rfl) ?_
                exact hK _ _ (Below.refl _ _) rfl
              · intro xv_ wx ρ hρ hwx hd K hK
                have e1 : ρ (.tmp 1) = .pointer (some ⟨q2, 0, none⟩) := (hρ.inn 1 rfl).trans s1
                refine g_field (r := 1) rfl e1 Try.underlying28 rfl (fun w => Try.sizeOf3 w) rfl rfl ?_
                exact hK _ _ (Below.refl _ _) rfl
              · intro xv_ wx ρ hρ hwx hd K hK
                obtain r2 : xv_ 2 = .pointer (some ⟨q2, 1, none⟩) := hd 2 rfl
                have e47 : ρ (.tmp 47) = .pointer (some ⟨q2, 1, none⟩) := (hρ.out 2 47 rfl (by rw [hs.size]; decide) rfl).trans r2
                have h_q2 := keep_below h_q2 hwx
                refine g_load rfl e47 Try.isAgg3 (box_cell h_q2 rfl) ?_
                exact hK _ _ (Below.refl _ _) rfl
              · intro xv_ wx ρ hρ hwx hd K hK
                obtain r3 : xv_ 3 = .int .i64 ct := hd 3 rfl
                have e48 : ρ (.tmp 48) = .int .i64 ct := (hρ.out 3 48 rfl (by rw [hs.size]; decide) rfl).trans r3
                refine g_add (r := ct + 1) rfl e48 ((hρ.cst _)) (by omega) (by omega) ?_
                exact hK _ _ (Below.refl _ _) rfl
              · intro xv_ wx ρ hρ hwx hd K hK
                obtain r4 : xv_ 4 = .int .i64 (ct + 1) := hd 4 rfl
                have e49 : ρ (.tmp 49) = .int .i64 (ct + 1) := (hρ.out 4 49 rfl (by rw [hs.size]; decide) rfl).trans r4
                refine g_remI rfl e49 ((hρ.cst _)) (by omega) (by omega) (by omega) ?_
                exact hK _ _ (Below.refl _ _) rfl
              · intro xv_ wx ρ hρ hwx hd K hK
                have e1 : ρ (.tmp 1) = .pointer (some ⟨q2, 0, none⟩) := (hρ.inn 1 rfl).trans s1
                refine g_field (r := 2) rfl e1 Try.underlying28 rfl (fun w => Try.sizeOf9 w) rfl rfl ?_
                exact hK _ _ (Below.refl _ _) rfl
              · intro xv_ wx ρ hρ hwx hd K hK
                obtain r6 : xv_ 6 = .pointer (some ⟨q2, 2, none⟩) := hd 6 rfl
                have e51 : ρ (.tmp 51) = .pointer (some ⟨q2, 2, none⟩) := (hρ.out 6 51 rfl (by rw [hs.size]; decide) rfl).trans r6
                have h_q2 := keep_below h_q2 hwx
                refine g_load rfl e51 Try.isAgg9 (box_cell h_q2 rfl) ?_
                exact hK _ _ (Below.refl _ _) rfl
              · intro xv_ wx ρ hρ hwx hd K hK
                obtain r7 : xv_ 7 = .string ⟨(rest).toArray⟩ := hd 7 rfl
                have e52 : ρ (.tmp 52) = .string ⟨(rest).toArray⟩ := (hρ.out 7 52 rfl (by rw [hs.size]; decide) rfl).trans r7
                refine g_tailS (k := 24) rfl e52 ((hρ.cst _)) rfl Try.underlying9 (by omega) ?_
                exact hK _ _ (Below.refl _ _) rfl
              · intro xv_ wx ρ hρ hwx hd K hK
                obtain r1 : xv_ 1 = .int .i64 ch := hd 1 rfl
                have e46 : ρ (.tmp 46) = .int .i64 ch := (hρ.out 1 46 rfl (by rw [hs.size]; decide) rfl).trans r1
                obtain r5 : xv_ 5 = .int .i64 ((ct + 1) % 256) := hd 5 rfl
                have e50 : ρ (.tmp 50) = .int .i64 ((ct + 1) % 256) := (hρ.out 5 50 rfl (by rw [hs.size]; decide) rfl).trans r5
                obtain r8 : xv_ 8 = .string ⟨(rest.drop 24).toArray⟩ := hd 8 rfl
                have e53 : ρ (.tmp 53) = .string ⟨(rest.drop 24).toArray⟩ := (hρ.out 8 53 rfl (by rw [hs.size]; decide) rfl).trans r8
                refine g_build (cells := #[.int .i64 ch, .int .i64 ((ct + 1) % 256), .string ⟨(rest.drop 24).toArray⟩, .slice none 0 0]) rfl (arrB3 e46 e50 e53) (by kernel_rfl) ?_
                exact hK _ _ (Below.refl _ _) rfl
              · intro xv_ wx ρ hρ hwx hd K hK
                refine g_alloc rfl Try.zeroValue28 rfl ?_
                intro q w' N
                exact hK _ _ N.below ⟨q, rfl, Nat.le_trans hwx.size N.lo, N.here⟩
            · intro x0_ w39 hb_w39 hr0
              obtain r0 : x0_ 0 = .pointer (some ⟨q2, 0, none⟩) := hr0 0 (by decide) rfl rfl
              obtain r1 : x0_ 1 = .int .i64 ch := hr0 1 (by decide) rfl rfl
              obtain r2 : x0_ 2 = .pointer (some ⟨q2, 1, none⟩) := hr0 2 (by decide) rfl rfl
              obtain r3 : x0_ 3 = .int .i64 ct := hr0 3 (by decide) rfl rfl
              obtain r4 : x0_ 4 = .int .i64 (ct + 1) := hr0 4 (by decide) rfl rfl
              obtain r5 : x0_ 5 = .int .i64 ((ct + 1) % 256) := hr0 5 (by decide) rfl rfl
              obtain r6 : x0_ 6 = .pointer (some ⟨q2, 2, none⟩) := hr0 6 (by decide) rfl rfl
              obtain r7 : x0_ 7 = .string ⟨(rest).toArray⟩ := hr0 7 (by decide) rfl rfl
              obtain r8 : x0_ 8 = .string ⟨(rest.drop 24).toArray⟩ := hr0 8 (by decide) rfl rfl
              obtain r9 : x0_ 9 = .agg #[.int .i64 ch, .int .i64 ((ct + 1) % 256), .string ⟨(rest.drop 24).toArray⟩, .slice none 0 0] := hr0 9 (by decide) rfl rfl
              obtain ⟨q38, r10, g0_q38, h_q38⟩ : ∃ q38, x0_ 10 = .pointer (some ⟨q38, 0, none⟩) ∧ w36.heap.size ≤ q38 ∧ w39.heap[q38]? = some (.cells #[.int .i64 0, .int .i64 0, .string ⟨#[]⟩, .slice none 0 0] 28 (0, 0)) := hr0 10 (by decide) rfl rfl
              clear hr0
              have n_q2_q38 : NeB q2 q38 := ⟨fun e => by have := lt_of_block h_q2; omega⟩
              have n_q38_q2 := n_q2_q38.symm
              have n_q4_q38 : NeB q4 q38 := ⟨fun e => by have := lt_of_block h_q4; omega⟩
              have n_q38_q4 := n_q4_q38.symm
              have n_q6_q38 : NeB q6 q38 := ⟨fun e => by have := lt_of_block h_q6; omega⟩
              have n_q38_q6 := n_q6_q38.symm
              have n_q23_q38 : NeB q23 q38 := ⟨fun e => by have := lt_of_block h_q23; omega⟩
              have n_q38_q23 := n_q23_q38.symm
              have g_q38 : GeB w.heap.size q38 := ⟨Nat.le_trans hB.size g0_q38⟩
              clear g0_q38
              replace h_q2 := keep_below h_q2 hb_w39
              replace h_q4 := keep_below h_q4 hb_w39
              replace h_q6 := keep_below h_q6 hb_w39
              replace h_q23 := keep_below h_q23 hb_w39
              replace hB := hB.trans (hb_w39.mono hB.size)
              clear hb_w39
              intro op_ ho_ xv_ ρ hρ qx_ ql_ qk_
              obtain rfl := Option.some.inj ho_
              clear ho_
              have e6 : ρ (.tmp 6) = .pointer (some ⟨q38, 0, none⟩) := (hρ.out 10 6 rfl (by rw [hs.size]; decide) rfl).trans ((qx_ 10 (by decide) rfl rfl).trans r10)
              have e54 : ρ (.tmp 54) = .agg #[.int .i64 ch, .int .i64 ((ct + 1) % 256), .string ⟨(rest.drop 24).toArray⟩, .slice none 0 0] := (hρ.out 9 54 rfl (by rw [hs.size]; decide) rfl).trans ((qx_ 9 (by decide) rfl rfl).trans r9)
              refine g_storeB rfl e6 e54 Try.sizeOf28 rfl rfl h_q38 rfl ?_
              intro w40 W_w40
              replace h_q2 := keep_wrote h_q2 W_w40 n_q38_q2
              replace h_q4 := keep_wrote h_q4 W_w40 n_q38_q4
              replace h_q6 := keep_wrote h_q6 W_w40 n_q38_q6
              replace h_q23 := keep_wrote h_q23 W_w40 n_q38_q23
              replace h_q38 := W_w40.here
              replace hB := below_wrote hB hB.size W_w40 g_q38.le
              clear W_w40
              clear e54 e6
              clear hρ qx_ ql_ qk_
              intro xv_ a31 hρ hsz hdf qx_ ql_ qk_ qlk_
              replace s1 : a31.eval (.tmp 1) = .pointer (some ⟨q2, 0, none⟩) := (hρ.inn 1 rfl).trans s1
              replace s2 : a31.eval (.tmp 2) = .pointer (some ⟨q4, 0, none⟩) := (hρ.inn 2 rfl).trans s2
              replace s3 : a31.eval (.tmp 3) = .pointer (some ⟨q6, 0, none⟩) := (hρ.inn 3 rfl).trans s3
              replace s4 : a31.eval (.tmp 4) = .bool false := (hρ.inn 4 rfl).trans s4
              replace s5 : a31.eval (.tmp 5) = .pointer (some ⟨q23, 0, none⟩) := (hρ.inn 5 rfl).trans s5
              have s6 : a31.eval (.tmp 6) = .pointer (some ⟨q38, 0, none⟩) := (hρ.out 10 6 rfl (by rw [hs.size]; decide)).trans ((qx_ 10 (by decide) rfl rfl).trans r10)
              replace hs : St 74 a31 := ⟨hsz.trans hs.size, hdf.trans hs.nodef⟩
              clear hρ hsz hdf qx_ ql_ qk_ qlk_
              refine hK37 _ _ ?_
              clear hK37
              refine wp_seq_k fun K41 hK41 => ?_
              refine wp_seq_k fun K42 hK42 => ?_
              refine wp_region_lit ?_
              refine q_val rfl rfl ?_
              refine g_field (r := 3) rfl s1 Try.underlying28 rfl (fun w => Try.sizeOf26 w) rfl rfl ?_
              intro a32 p32
              have s55 : a32.eval (.tmp 55) = .pointer (some ⟨q2, 3, none⟩) := p32.at hs (by decide)
              replace hs := p32.st hs
              refine q_val rfl rfl ?_
              refine g_load rfl s55 Try.isAgg26 (box_cell h_q2 rfl) ?_
              intro a33 p33
              have s56 : a33.eval (.tmp 56) = .slice B ds.length dp := p33.at hs (by decide)
              replace hs := p33.st hs
              refine q_val rfl rfl ?_
              refine g_len (e := _) rfl Try.underlying26 s56 ?_
              intro a34 p34
              have s57 : a34.eval (.tmp 57) = .int .i64 ((ds.length : Nat) : Int) := p34.at hs (by decide)
              replace hs := p34.st hs
              refine q_val rfl rfl ?_
              refine g_move rfl rfl ?_
              intro a35 p35
              have s58 : a35.eval (.tmp 58) = .int .i64 0 := p35.at hs (by decide)
              replace hs := p35.st hs
              refine wpList_nil ?_
              replace s2 : a35.eval (.tmp 2) = .pointer (some ⟨q4, 0, none⟩) := ((p35.ne rfl).trans ((p34.ne rfl).trans ((p33.ne rfl).trans (p32.ne rfl)))).trans s2
              replace s3 : a35.eval (.tmp 3) = .pointer (some ⟨q6, 0, none⟩) := ((p35.ne rfl).trans ((p34.ne rfl).trans ((p33.ne rfl).trans (p32.ne rfl)))).trans s3
              replace s4 : a35.eval (.tmp 4) = .bool false := ((p35.ne rfl).trans ((p34.ne rfl).trans ((p33.ne rfl).trans (p32.ne rfl)))).trans s4
              replace s5 : a35.eval (.tmp 5) = .pointer (some ⟨q23, 0, none⟩) := ((p35.ne rfl).trans ((p34.ne rfl).trans ((p33.ne rfl).trans (p32.ne rfl)))).trans s5
              replace s6 : a35.eval (.tmp 6) = .pointer (some ⟨q38, 0, none⟩) := ((p35.ne rfl).trans ((p34.ne rfl).trans ((p33.ne rfl).trans (p32.ne rfl)))).trans s6
              replace s56 : a35.eval (.tmp 56) = .slice B ds.length dp := ((p35.ne rfl).trans (p34.ne rfl)).trans s56
              replace s57 : a35.eval (.tmp 57) = .int .i64 ((ds.length : Nat) : Int) := (p35.ne rfl).trans s57
              refine hK42 _ _ ?_
              clear hK42
              refine wp_block ?_
              have o_e : w40.ownsRow w.heap.size 3 1 (.slice none 0 0) 0 ([].flatMap cI) := World.ownsRow_nil _ _ _ _
              have g_e : ∀ b, (none : Option Addr).map (·.block) = some b → w.heap.size ≤ b := fun b h => by cases h
              have d_e_q2 : (none : Option Addr).map (·.block) ≠ some q2 := fun h => by cases h
              have d_e_q4 : (none : Option Addr).map (·.block) ≠ some q4 := fun h => by cases h
              have d_e_q6 : (none : Option Addr).map (·.block) ≠ some q6 := fun h => by cases h
              have d_e_q23 : (none : Option Addr).map (·.block) ≠ some q23 := fun h => by cases h
              have d_e_q38 : (none : Option Addr).map (·.block) ≠ some q38 := fun h => by cases h
              refine wp_loop (fun a wr => ∃ (k : Nat) (es : List Int) (E : Option Addr) (ce : Nat) (ne : Nat), (St 74 a) ∧ (a.eval (.tmp 2) = .pointer (some ⟨q4, 0, none⟩)) ∧ (a.eval (.tmp 3) = .pointer (some ⟨q6, 0, none⟩)) ∧ (a.eval (.tmp 4) = .bool false) ∧ (a.eval (.tmp 5) = .pointer (some ⟨q23, 0, none⟩)) ∧ (a.eval (.tmp 6) = .pointer (some ⟨q38, 0, none⟩)) ∧ (a.eval (.tmp 56) = .slice B ds.length dp) ∧ (a.eval (.tmp 57) = .int .i64 ((ds.length : Nat) : Int)) ∧ (a.eval (.tmp 58) = .int .i64 ((k : Nat) : Int)) ∧ (Below w.heap.size w wr) ∧ (wr.heap[q2]? = some (.cells #[.int .i64 ch, .int .i64 ct, .string ⟨(rest).toArray⟩, .slice B ds.length dp] 28 (0, 0))) ∧ (wr.heap[q4]? = some (.cells #[.int .i64 0, .int .i64 0, .string ⟨#[]⟩, .slice none 0 0] 28 (0, 0))) ∧ (wr.heap[q6]? = some (.cells #[.int .i64 0, .int .i64 0, .int .i64 0, .string ⟨#[]⟩] 40 (0, 0))) ∧ (wr.heap[q23]? = some (.cells #[.int .i64 ch, .int .i64 ct, .int .i64 ds[0], .string ⟨(rest.take 24).toArray⟩] 40 (0, 0))) ∧ (wr.heap[q38]? = some (.cells #[.int .i64 ch, .int .i64 ((ct + 1) % 256), .string ⟨(rest.drop 24).toArray⟩, .slice E ne ce] 28 (0, 0))) ∧ (wr.ownsRow w.heap.size 3 1 (.slice E ne ce) ne (es.flatMap cI)) ∧ ((E : Option Addr).map (·.block) ≠ some q2) ∧ ((E : Option Addr).map (·.block) ≠ some q4) ∧ ((E : Option Addr).map (·.block) ≠ some q6) ∧ ((E : Option Addr).map (·.block) ≠ some q23) ∧ ((E : Option Addr).map (·.block) ≠ some q38) ∧ (∀ b, (E : Option Addr).map (·.block) = some b → w.heap.size ≤ b) ∧ (k ≤ ds.length) ∧ (es = cutDs (ds.take k)) ∧ (es.length = ne)) (fun a _ => ds.length - (intOf (a.eval (.tmp 58))).toNat) (⟨0, [], none, 0, 0, hs, s2, s3, s4, s5, s6, s56, s57, s58, hB, h_q2, h_q4, h_q6, h_q23, h_q38, o_e, d_e_q2, d_e_q4, d_e_q6, d_e_q23, d_e_q38, g_e, Nat.zero_le _, rfl, rfl⟩) ?_
              intro a36 w44 hI
              obtain ⟨k, es, E, ce, ne, hs, s2, s3, s4, s5, s6, s56, s57, s58, hB, h_q2, h_q4, h_q6, h_q23, h_q38, o_e, d_e_q2, d_e_q4, d_e_q6, d_e_q23, d_e_q38, g_e, hk, hes, hne⟩ := hI
              have mu45 := s58
              refine wp_seq_k fun K46 hK46 => ?_
              refine wp_region_lit ?_
              refine q_val rfl rfl ?_
              refine g_lss rfl s58 s57 ?_
              intro a37 p37
              have s59 : a37.eval (.tmp 59) = .bool (decide (((k : Nat) : Int) < ((ds.length : Nat) : Int))) := p37.at hs (by decide)
              replace hs := p37.st hs
              refine wpList_nil ?_
              replace s2 : a37.eval (.tmp 2) = .pointer (some ⟨q4, 0, none⟩) := (p37.ne rfl).trans s2
              replace s3 : a37.eval (.tmp 3) = .pointer (some ⟨q6, 0, none⟩) := (p37.ne rfl).trans s3
              replace s4 : a37.eval (.tmp 4) = .bool false := (p37.ne rfl).trans s4
              replace s5 : a37.eval (.tmp 5) = .pointer (some ⟨q23, 0, none⟩) := (p37.ne rfl).trans s5
              replace s6 : a37.eval (.tmp 6) = .pointer (some ⟨q38, 0, none⟩) := (p37.ne rfl).trans s6
              replace s56 : a37.eval (.tmp 56) = .slice B ds.length dp := (p37.ne rfl).trans s56
              replace s57 : a37.eval (.tmp 57) = .int .i64 ((ds.length : Nat) : Int) := (p37.ne rfl).trans s57
              replace s58 : a37.eval (.tmp 58) = .int .i64 ((k : Nat) : Int) := (p37.ne rfl).trans s58
              refine hK46 _ _ ?_
              clear hK46
              refine wp_seq_k fun K47 hK47 => ?_
              by_cases hc48 : ((k : Nat) : Int) < ((ds.length : Nat) : Int)
              · replace s59 := s59.trans (congrArg Value.bool (decide_eq_true hc48))
                replace s59 : a37.eval (.tmp 59) = .bool true := s59
                refine c_true s59 ?_
                refine wp_skip ?_
                refine hK47 _ _ ?_
                clear hK47
                refine wp_seq_k fun K49 hK49 => ?_
                refine wp_block ?_
                refine wp_seq_k fun K50 hK50 => ?_
                have hlt : k < ds.length := by omega
                have hdk := stTo_at hp6 hlt
                have hel : ne ≤ ds.length := by rw [← hne, hes]; exact Nat.le_trans (cutDs_len _) (by rw [List.length_take]; omega)
                refine wp_region_lit ?_
                obtain ⟨b51, o52, hA53, hl_hc54, hc54⟩ := Rd.get cI_len (hr_d.below hB) rfl (i := k) (by omega)
                refine q_val rfl rfl ?_
                refine g_index (r := o52 + k * 1) (k := k) rfl (s56.trans (slice_at hA53)) s58 Try.underlying26 (fun w => Try.sizeOf3 w) (by omega) rfl ?_
                intro a38 p38
                have s60 : a38.eval (.tmp 60) = .pointer (some ⟨b51, o52 + k * 1, none⟩) := p38.at hs (by decide)
                replace hs := p38.st hs
                refine q_val rfl rfl ?_
                refine g_load rfl s60 Try.isAgg3 (by first | exact hc54 0 _ (by decide) rfl | (rw [Nat.add_assoc]; exact hc54 0 _ (by decide) rfl)) ?_
                intro a39 p39
                have s61 : a39.eval (.tmp 61) = .int .i64 ds[k] := p39.at hs (by decide)
                replace hs := p39.st hs
                refine q_val rfl rfl ?_
                refine g_assign rfl s61 ?_
                intro a40 p40
                have s8 : a40.eval (.tmp 8) = .int .i64 ds[k] := p40.at hs (by decide)
                replace hs := p40.st hs
                refine wpList_nil ?_
                replace s2 : a40.eval (.tmp 2) = .pointer (some ⟨q4, 0, none⟩) := ((p40.ne rfl).trans ((p39.ne rfl).trans (p38.ne rfl))).trans s2
                replace s3 : a40.eval (.tmp 3) = .pointer (some ⟨q6, 0, none⟩) := ((p40.ne rfl).trans ((p39.ne rfl).trans (p38.ne rfl))).trans s3
                replace s4 : a40.eval (.tmp 4) = .bool false := ((p40.ne rfl).trans ((p39.ne rfl).trans (p38.ne rfl))).trans s4
                replace s5 : a40.eval (.tmp 5) = .pointer (some ⟨q23, 0, none⟩) := ((p40.ne rfl).trans ((p39.ne rfl).trans (p38.ne rfl))).trans s5
                replace s6 : a40.eval (.tmp 6) = .pointer (some ⟨q38, 0, none⟩) := ((p40.ne rfl).trans ((p39.ne rfl).trans (p38.ne rfl))).trans s6
                replace s56 : a40.eval (.tmp 56) = .slice B ds.length dp := ((p40.ne rfl).trans ((p39.ne rfl).trans (p38.ne rfl))).trans s56
                replace s57 : a40.eval (.tmp 57) = .int .i64 ((ds.length : Nat) : Int) := ((p40.ne rfl).trans ((p39.ne rfl).trans (p38.ne rfl))).trans s57
                replace s58 : a40.eval (.tmp 58) = .int .i64 ((k : Nat) : Int) := ((p40.ne rfl).trans ((p39.ne rfl).trans (p38.ne rfl))).trans s58
                replace s59 : a40.eval (.tmp 59) = .bool true := ((p40.ne rfl).trans ((p39.ne rfl).trans (p38.ne rfl))).trans s59
                refine hK50 _ _ ?_
                clear hK50
                refine wp_seq_k fun K55 hK55 => ?_
                refine wp_region_lit ?_
                refine q_val rfl rfl ?_
                refine g_move rfl s8 ?_
                intro a41 p41
                have s62 : a41.eval (.tmp 62) = .int .i64 ds[k] := p41.at hs (by decide)
                replace hs := p41.st hs
                refine q_val rfl rfl ?_
                refine g_geq rfl s62 rfl ?_
                intro a42 p42
                have s63 : a42.eval (.tmp 63) = .bool (decide (24 ≤ ds[k])) := p42.at hs (by decide)
                replace hs := p42.st hs
                refine wpList_nil ?_
                replace s2 : a42.eval (.tmp 2) = .pointer (some ⟨q4, 0, none⟩) := ((p42.ne rfl).trans (p41.ne rfl)).trans s2
                replace s3 : a42.eval (.tmp 3) = .pointer (some ⟨q6, 0, none⟩) := ((p42.ne rfl).trans (p41.ne rfl)).trans s3
                replace s4 : a42.eval (.tmp 4) = .bool false := ((p42.ne rfl).trans (p41.ne rfl)).trans s4
                replace s5 : a42.eval (.tmp 5) = .pointer (some ⟨q23, 0, none⟩) := ((p42.ne rfl).trans (p41.ne rfl)).trans s5
                replace s6 : a42.eval (.tmp 6) = .pointer (some ⟨q38, 0, none⟩) := ((p42.ne rfl).trans (p41.ne rfl)).trans s6
                replace s56 : a42.eval (.tmp 56) = .slice B ds.length dp := ((p42.ne rfl).trans (p41.ne rfl)).trans s56
                replace s57 : a42.eval (.tmp 57) = .int .i64 ((ds.length : Nat) : Int) := ((p42.ne rfl).trans (p41.ne rfl)).trans s57
                replace s58 : a42.eval (.tmp 58) = .int .i64 ((k : Nat) : Int) := ((p42.ne rfl).trans (p41.ne rfl)).trans s58
                replace s59 : a42.eval (.tmp 59) = .bool true := ((p42.ne rfl).trans (p41.ne rfl)).trans s59
                replace s8 : a42.eval (.tmp 8) = .int .i64 ds[k] := ((p42.ne rfl).trans (p41.ne rfl)).trans s8
                refine hK55 _ _ ?_
                clear hK55
                by_cases h5 : 24 ≤ ds[k]
                · replace s63 := s63.trans (congrArg Value.bool (decide_eq_true h5))
                  replace s63 : a42.eval (.tmp 63) = .bool true := s63
                  refine c_true s63 ?_
                  refine wp_region_lit ?_
                  refine q_val rfl rfl ?_
                  refine g_field (r := 3) rfl s6 Try.underlying28 rfl (fun w => Try.sizeOf26 w) rfl rfl ?_
                  intro a43 p43
                  have s64 : a43.eval (.tmp 64) = .pointer (some ⟨q38, 3, none⟩) := p43.at hs (by decide)
                  replace hs := p43.st hs
                  refine q_val rfl rfl ?_
                  refine g_load rfl s64 Try.isAgg26 (box_cell h_q38 rfl) ?_
                  intro a44 p44
                  have s65 : a44.eval (.tmp 65) = .slice E ne ce := p44.at hs (by decide)
                  replace hs := p44.st hs
                  refine q_val rfl rfl ?_
                  refine g_move rfl (((p44.ne rfl).trans (p43.ne rfl)).trans s8) ?_
                  intro a45 p45
                  have s66 : a45.eval (.tmp 66) = .int .i64 ds[k] := p45.at hs (by decide)
                  replace hs := p45.st hs
                  refine q_val rfl rfl ?_
                  refine g_sub (r := ds[k] - 24) rfl s66 rfl (by omega) (by omega) ?_
                  intro a46 p46
                  have s67 : a46.eval (.tmp 67) = .int .i64 (ds[k] - 24) := p46.at hs (by decide)
                  replace hs := p46.st hs
                  refine q_val rfl rfl ?_
                  refine g_bslice1 (cs := #[.int .i64 (ds[k] - 24)]) rfl Try.underlying26 Try.sizeOf3 Try.zeroValue3 s67 (by kernel_rfl) rfl (by decide) ?_
                  intro q56 w57 N_q56
                  have n_q2_q56 := N_q56.ne ⟨lt_of_block h_q2⟩
                  have n_q56_q2 := n_q2_q56.symm
                  have n_q4_q56 := N_q56.ne ⟨lt_of_block h_q4⟩
                  have n_q56_q4 := n_q4_q56.symm
                  have n_q6_q56 := N_q56.ne ⟨lt_of_block h_q6⟩
                  have n_q56_q6 := n_q6_q56.symm
                  have n_q23_q56 := N_q56.ne ⟨lt_of_block h_q23⟩
                  have n_q56_q23 := n_q23_q56.symm
                  have n_q38_q56 := N_q56.ne ⟨lt_of_block h_q38⟩
                  have n_q56_q38 := n_q38_q56.symm
                  have d_e_q56 := own_ne_new o_e N_q56
                  have g_q56 : GeB w.heap.size q56 := ⟨Nat.le_trans hB.size N_q56.lo⟩
                  replace h_q2 := keep_below h_q2 N_q56.below
                  replace h_q4 := keep_below h_q4 N_q56.below
                  replace h_q6 := keep_below h_q6 N_q56.below
                  replace h_q23 := keep_below h_q23 N_q56.below
                  replace h_q38 := keep_below h_q38 N_q56.below
                  replace o_e := own_below o_e N_q56.below
                  replace hB := below_new hB hB.size N_q56
                  have h_q56 := N_q56.here
                  clear N_q56
                  intro a47 p47
                  have s68 : a47.eval (.tmp 68) = .slice (some ⟨q56, 0, none⟩) 1 1 := p47.at hs (by decide)
                  replace hs := p47.st hs
                  refine q_val rfl rfl ?_
                  refine g_append (n' := ne + 1) (ys := (es ++ ([ds[k] - 24])).flatMap cI) w.heap.size (.int .i64 0) 1 8 rfl (((p47.ne rfl).trans ((p46.ne rfl).trans (p45.ne rfl))).trans s65) s68 Try.underlying26 infoI64 rfl (by decide) o_e (fun h => by cases h) (rd_box (xs := ([ds[k] - 24]).flatMap cI) h_q56 rfl rfl) (flatI_one _) (by omega) hB.size (by decide) (by omega) (by first | rfl | simp [List.flatMap_append] | (simp [List.flatMap_append, cI]; done)) ?_
                  intro A_r58 c_r58 w59 P_r58
                  have d_r58_q2 := P_r58.ne d_e_q2 (lt_of_block h_q2)
                  have d_r58_q4 := P_r58.ne d_e_q4 (lt_of_block h_q4)
                  have d_r58_q6 := P_r58.ne d_e_q6 (lt_of_block h_q6)
                  have d_r58_q23 := P_r58.ne d_e_q23 (lt_of_block h_q23)
                  have d_r58_q38 := P_r58.ne d_e_q38 (lt_of_block h_q38)
                  have d_r58_q56 := P_r58.ne d_e_q56 (lt_of_block h_q56)
                  have g_r58 := P_r58.ge g_e hB.size
                  replace h_q2 := keep_grown h_q2 P_r58.grown d_e_q2
                  replace h_q4 := keep_grown h_q4 P_r58.grown d_e_q4
                  replace h_q6 := keep_grown h_q6 P_r58.grown d_e_q6
                  replace h_q23 := keep_grown h_q23 P_r58.grown d_e_q23
                  replace h_q38 := keep_grown h_q38 P_r58.grown d_e_q38
                  replace h_q56 := keep_grown h_q56 P_r58.grown d_e_q56
                  replace hB := below_grown hB hB.size P_r58.grown g_e
                  have o_r58 := P_r58.own
                  clear P_r58
                  intro a48 p48
                  have s69 : a48.eval (.tmp 69) = .slice A_r58 (ne + 1) c_r58 := p48.at hs (by decide)
                  replace hs := p48.st hs
                  refine q_val rfl rfl ?_
                  refine g_field (r := 3) rfl (((p48.ne rfl).trans ((p47.ne rfl).trans ((p46.ne rfl).trans ((p45.ne rfl).trans ((p44.ne rfl).trans (p43.ne rfl)))))).trans s6) Try.underlying28 rfl (fun w => Try.sizeOf26 w) rfl rfl ?_
                  intro a49 p49
                  have s70 : a49.eval (.tmp 70) = .pointer (some ⟨q38, 3, none⟩) := p49.at hs (by decide)
                  replace hs := p49.st hs
                  refine q_eff rfl rfl ?_
                  refine g_store (cs' := #[.int .i64 ch, .int .i64 ((ct + 1) % 256), .string ⟨(rest.drop 24).toArray⟩, .slice A_r58 (ne + 1) c_r58]) rfl s70 ((p49.ne rfl).trans s69) Try.sizeOf26 rfl h_q38 (Nat.le_of_ble_eq_true rfl) rfl ?_
                  intro w60 W_w60
                  replace h_q2 := keep_wrote h_q2 W_w60 n_q38_q2
                  replace h_q4 := keep_wrote h_q4 W_w60 n_q38_q4
                  replace h_q6 := keep_wrote h_q6 W_w60 n_q38_q6
                  replace h_q23 := keep_wrote h_q23 W_w60 n_q38_q23
                  replace h_q38 := W_w60.here
                  replace h_q56 := keep_wrote h_q56 W_w60 n_q38_q56
                  replace o_r58 := own_wrote o_r58 W_w60 d_r58_q38
                  replace hB := below_wrote hB hB.size W_w60 g_q38.le
                  clear W_w60
                  refine wpList_nil ?_
                  replace s2 : a49.eval (.tmp 2) = .pointer (some ⟨q4, 0, none⟩) := ((p49.ne rfl).trans ((p48.ne rfl).trans ((p47.ne rfl).trans ((p46.ne rfl).trans ((p45.ne rfl).trans ((p44.ne rfl).trans (p43.ne rfl))))))).trans s2
                  replace s3 : a49.eval (.tmp 3) = .pointer (some ⟨q6, 0, none⟩) := ((p49.ne rfl).trans ((p48.ne rfl).trans ((p47.ne rfl).trans ((p46.ne rfl).trans ((p45.ne rfl).trans ((p44.ne rfl).trans (p43.ne rfl))))))).trans s3
                  replace s4 : a49.eval (.tmp 4) = .bool false := ((p49.ne rfl).trans ((p48.ne rfl).trans ((p47.ne rfl).trans ((p46.ne rfl).trans ((p45.ne rfl).trans ((p44.ne rfl).trans (p43.ne rfl))))))).trans s4
                  replace s5 : a49.eval (.tmp 5) = .pointer (some ⟨q23, 0, none⟩) := ((p49.ne rfl).trans ((p48.ne rfl).trans ((p47.ne rfl).trans ((p46.ne rfl).trans ((p45.ne rfl).trans ((p44.ne rfl).trans (p43.ne rfl))))))).trans s5
                  replace s6 : a49.eval (.tmp 6) = .pointer (some ⟨q38, 0, none⟩) := ((p49.ne rfl).trans ((p48.ne rfl).trans ((p47.ne rfl).trans ((p46.ne rfl).trans ((p45.ne rfl).trans ((p44.ne rfl).trans (p43.ne rfl))))))).trans s6
                  replace s56 : a49.eval (.tmp 56) = .slice B ds.length dp := ((p49.ne rfl).trans ((p48.ne rfl).trans ((p47.ne rfl).trans ((p46.ne rfl).trans ((p45.ne rfl).trans ((p44.ne rfl).trans (p43.ne rfl))))))).trans s56
                  replace s57 : a49.eval (.tmp 57) = .int .i64 ((ds.length : Nat) : Int) := ((p49.ne rfl).trans ((p48.ne rfl).trans ((p47.ne rfl).trans ((p46.ne rfl).trans ((p45.ne rfl).trans ((p44.ne rfl).trans (p43.ne rfl))))))).trans s57
                  replace s58 : a49.eval (.tmp 58) = .int .i64 ((k : Nat) : Int) := ((p49.ne rfl).trans ((p48.ne rfl).trans ((p47.ne rfl).trans ((p46.ne rfl).trans ((p45.ne rfl).trans ((p44.ne rfl).trans (p43.ne rfl))))))).trans s58
                  replace s59 : a49.eval (.tmp 59) = .bool true := ((p49.ne rfl).trans ((p48.ne rfl).trans ((p47.ne rfl).trans ((p46.ne rfl).trans ((p45.ne rfl).trans ((p44.ne rfl).trans (p43.ne rfl))))))).trans s59
                  replace s8 : a49.eval (.tmp 8) = .int .i64 ds[k] := ((p49.ne rfl).trans ((p48.ne rfl).trans ((p47.ne rfl).trans ((p46.ne rfl).trans ((p45.ne rfl).trans ((p44.ne rfl).trans (p43.ne rfl))))))).trans s8
                  replace s63 : a49.eval (.tmp 63) = .bool true := ((p49.ne rfl).trans ((p48.ne rfl).trans ((p47.ne rfl).trans ((p46.ne rfl).trans ((p45.ne rfl).trans ((p44.ne rfl).trans (p43.ne rfl))))))).trans s63
                  refine hK49 _ _ ?_
                  clear hK49
                  refine wp_region_lit ?_
                  refine q_val rfl rfl ?_
                  refine g_add (r := ((k + 1 : Nat) : Int)) rfl s58 rfl (by omega) (by omega) ?_
                  intro a50 p50
                  have s71 : a50.eval (.tmp 71) = .int .i64 ((k + 1 : Nat) : Int) := p50.at hs (by decide)
                  replace hs := p50.st hs
                  refine q_val rfl rfl ?_
                  refine g_move rfl s71 ?_
                  intro a51 p51
                  have s58 : a51.eval (.tmp 58) = .int .i64 ((k + 1 : Nat) : Int) := p51.at hs (by decide)
                  replace hs := p51.st hs
                  refine wpList_nil ?_
                  replace s2 : a51.eval (.tmp 2) = .pointer (some ⟨q4, 0, none⟩) := ((p51.ne rfl).trans (p50.ne rfl)).trans s2
                  replace s3 : a51.eval (.tmp 3) = .pointer (some ⟨q6, 0, none⟩) := ((p51.ne rfl).trans (p50.ne rfl)).trans s3
                  replace s4 : a51.eval (.tmp 4) = .bool false := ((p51.ne rfl).trans (p50.ne rfl)).trans s4
                  replace s5 : a51.eval (.tmp 5) = .pointer (some ⟨q23, 0, none⟩) := ((p51.ne rfl).trans (p50.ne rfl)).trans s5
                  replace s6 : a51.eval (.tmp 6) = .pointer (some ⟨q38, 0, none⟩) := ((p51.ne rfl).trans (p50.ne rfl)).trans s6
                  replace s56 : a51.eval (.tmp 56) = .slice B ds.length dp := ((p51.ne rfl).trans (p50.ne rfl)).trans s56
                  replace s57 : a51.eval (.tmp 57) = .int .i64 ((ds.length : Nat) : Int) := ((p51.ne rfl).trans (p50.ne rfl)).trans s57
                  replace s59 : a51.eval (.tmp 59) = .bool true := ((p51.ne rfl).trans (p50.ne rfl)).trans s59
                  replace s8 : a51.eval (.tmp 8) = .int .i64 ds[k] := ((p51.ne rfl).trans (p50.ne rfl)).trans s8
                  replace s63 : a51.eval (.tmp 63) = .bool true := ((p51.ne rfl).trans (p50.ne rfl)).trans s63
                  have o_e := o_r58
                  have g_e := g_r58
                  have d_e_q2 := d_r58_q2
                  have d_e_q4 := d_r58_q4
                  have d_e_q6 := d_r58_q6
                  have d_e_q23 := d_r58_q23
                  have d_e_q38 := d_r58_q38
                  refine show _ ∧ _ from ⟨⟨k + 1, es ++ ([ds[k] - 24]), _, _, _, hs, s2, s3, s4, s5, s6, s56, s57, s58, hB, h_q2, h_q4, h_q6, h_q23, h_q38, o_e, d_e_q2, d_e_q4, d_e_q6, d_e_q23, d_e_q38, g_e, (by omega), (by rw [cutDs_in hlt h5, hes]), (by rw [List.length_append, hne]; rfl)⟩, ?_⟩
                  show ds.length - (intOf (a51.eval (.tmp 58))).toNat < ds.length - (intOf (a36.eval (.tmp 58))).toNat
                  rw [s58, mu45]
                  simp only [intOf]
                  omega
                · replace s63 := s63.trans (congrArg Value.bool (decide_eq_false h5))
                  replace s63 : a42.eval (.tmp 63) = .bool false := s63
                  refine c_false s63 ?_
                  refine wp_skip ?_
                  refine hK49 _ _ ?_
                  clear hK49
                  refine wp_region_lit ?_
                  refine q_val rfl rfl ?_
                  refine g_add (r := ((k + 1 : Nat) : Int)) rfl s58 rfl (by omega) (by omega) ?_
                  intro a43 p43
                  have s71 : a43.eval (.tmp 71) = .int .i64 ((k + 1 : Nat) : Int) := p43.at hs (by decide)
                  replace hs := p43.st hs
                  refine q_val rfl rfl ?_
                  refine g_move rfl s71 ?_
                  intro a44 p44
                  have s58 : a44.eval (.tmp 58) = .int .i64 ((k + 1 : Nat) : Int) := p44.at hs (by decide)
                  replace hs := p44.st hs
                  refine wpList_nil ?_
                  replace s2 : a44.eval (.tmp 2) = .pointer (some ⟨q4, 0, none⟩) := ((p44.ne rfl).trans (p43.ne rfl)).trans s2
                  replace s3 : a44.eval (.tmp 3) = .pointer (some ⟨q6, 0, none⟩) := ((p44.ne rfl).trans (p43.ne rfl)).trans s3
                  replace s4 : a44.eval (.tmp 4) = .bool false := ((p44.ne rfl).trans (p43.ne rfl)).trans s4
                  replace s5 : a44.eval (.tmp 5) = .pointer (some ⟨q23, 0, none⟩) := ((p44.ne rfl).trans (p43.ne rfl)).trans s5
                  replace s6 : a44.eval (.tmp 6) = .pointer (some ⟨q38, 0, none⟩) := ((p44.ne rfl).trans (p43.ne rfl)).trans s6
                  replace s56 : a44.eval (.tmp 56) = .slice B ds.length dp := ((p44.ne rfl).trans (p43.ne rfl)).trans s56
                  replace s57 : a44.eval (.tmp 57) = .int .i64 ((ds.length : Nat) : Int) := ((p44.ne rfl).trans (p43.ne rfl)).trans s57
                  replace s59 : a44.eval (.tmp 59) = .bool true := ((p44.ne rfl).trans (p43.ne rfl)).trans s59
                  replace s8 : a44.eval (.tmp 8) = .int .i64 ds[k] := ((p44.ne rfl).trans (p43.ne rfl)).trans s8
                  replace s63 : a44.eval (.tmp 63) = .bool false := ((p44.ne rfl).trans (p43.ne rfl)).trans s63
                  refine show _ ∧ _ from ⟨⟨k + 1, es, _, _, _, hs, s2, s3, s4, s5, s6, s56, s57, s58, hB, h_q2, h_q4, h_q6, h_q23, h_q38, o_e, d_e_q2, d_e_q4, d_e_q6, d_e_q23, d_e_q38, g_e, (by omega), (by rw [cutDs_out hlt h5, hes]), hne⟩, ?_⟩
                  show ds.length - (intOf (a44.eval (.tmp 58))).toNat < ds.length - (intOf (a36.eval (.tmp 58))).toNat
                  rw [s58, mu45]
                  simp only [intOf]
                  omega
              · replace s59 := s59.trans (congrArg Value.bool (decide_eq_false hc48))
                replace s59 : a37.eval (.tmp 59) = .bool false := s59
                refine c_false s59 ?_
                refine wp_exit ?_
                refine hK41 _ _ ?_
                clear hK41
                refine wp_seq_k fun K61 hK61 => ?_
                have hkz : k = ds.length := by omega
                subst hkz
                rw [List.take_length] at hes
                subst hes
                refine wp_tree (n := 5) (by kernel_rfl) rfl ?_
                intro w62 hb_w62
                replace h_q2 := keep_below h_q2 hb_w62
                replace h_q4 := keep_below h_q4 hb_w62
                replace h_q6 := keep_below h_q6 hb_w62
                replace h_q23 := keep_below h_q23 hb_w62
                replace h_q38 := keep_below h_q38 hb_w62
                replace o_e := own_below o_e hb_w62
                replace hB := hB.trans (hb_w62.mono hB.size)
                clear hb_w62
                refine t_node2 (i := 0) (j := 1) (by kernel_rfl) ?_ ?_
                · refine w_val rfl rfl rfl ?_
                  refine g_loadB rfl s6 Try.isAgg28 Try.sizeOf28 rfl h_q38 ?_
                  intro a38 p38
                  have s72 : a38.eval (.tmp 72) = .agg #[.int .i64 ch, .int .i64 ((ct + 1) % 256), .string ⟨(rest.drop 24).toArray⟩, .slice E ne ce] := p38.at hs (by decide)
                  replace hs := p38.st hs
                  refine t_node2 (i := 1) (j := 2) (by kernel_rfl) ?_ ?_
                  · refine w_val rfl rfl rfl ?_
                    refine g_loadB rfl ((p38.ne rfl).trans s5) Try.isAgg40 Try.sizeOf40 rfl h_q23 ?_
                    intro a39 p39
                    have s73 : a39.eval (.tmp 73) = .agg #[.int .i64 ch, .int .i64 ct, .int .i64 ds[0], .string ⟨(rest.take 24).toArray⟩] := p39.at hs (by decide)
                    replace hs := p39.st hs
                    refine t_node1 (i := 2) (by kernel_rfl) ?_
                    refine w_eff rfl rfl rfl ?_
                    refine g_storeB rfl (((p39.ne rfl).trans (p38.ne rfl)).trans s2) ((p39.ne rfl).trans s72) Try.sizeOf28 rfl rfl h_q4 rfl ?_
                    intro w63 W_w63
                    replace h_q2 := keep_wrote h_q2 W_w63 n_q4_q2
                    replace h_q4 := W_w63.here
                    replace h_q6 := keep_wrote h_q6 W_w63 n_q4_q6
                    replace h_q23 := keep_wrote h_q23 W_w63 n_q4_q23
                    replace h_q38 := keep_wrote h_q38 W_w63 n_q4_q38
                    replace o_e := own_wrote o_e W_w63 d_e_q4
                    replace hB := below_wrote hB hB.size W_w63 g_q4.le
                    clear W_w63
                    refine t_node1 (i := 3) (by kernel_rfl) ?_
                    refine w_eff rfl rfl rfl ?_
                    refine g_storeB rfl (((p39.ne rfl).trans (p38.ne rfl)).trans s3) s73 Try.sizeOf40 rfl rfl h_q6 rfl ?_
                    intro w64 W_w64
                    replace h_q2 := keep_wrote h_q2 W_w64 n_q6_q2
                    replace h_q4 := keep_wrote h_q4 W_w64 n_q6_q4
                    replace h_q6 := W_w64.here
                    replace h_q23 := keep_wrote h_q23 W_w64 n_q6_q23
                    replace h_q38 := keep_wrote h_q38 W_w64 n_q6_q38
                    replace o_e := own_wrote o_e W_w64 d_e_q6
                    replace hB := below_wrote hB hB.size W_w64 g_q6.le
                    clear W_w64
                    refine t_node1 (i := 4) (by kernel_rfl) ?_
                    refine w_val rfl rfl rfl ?_
                    refine g_assign rfl rfl ?_
                    intro a40 p40
                    have s4 : a40.eval (.tmp 4) = .bool true := p40.at hs (by decide)
                    replace hs := p40.st hs
                    refine t_leaf (by kernel_rfl) ?_
                    replace s2 : a40.eval (.tmp 2) = .pointer (some ⟨q4, 0, none⟩) := ((p40.ne rfl).trans ((p39.ne rfl).trans (p38.ne rfl))).trans s2
                    replace s3 : a40.eval (.tmp 3) = .pointer (some ⟨q6, 0, none⟩) := ((p40.ne rfl).trans ((p39.ne rfl).trans (p38.ne rfl))).trans s3
                    refine hK61 _ _ ?_
                    clear hK61
                    refine wp_ret ?_
                    try dsimp only [Exit.then, Exit.inBlock]
                    refine ret3 hs Try.results26 (res_cell s2 h_q4 Try.isAgg28 Try.sizeOf28 rfl) (res_cell s3 h_q6 Try.isAgg40 Try.sizeOf40 rfl) (res_tmp s4) ?_
                    rw [firstOf_yes (by omega) h4] at tf1
                    rw [htf, tf1, tf2, tf3, tf4]
                    exact ⟨_, _, _, rfl, hne, o_e, hB⟩
                  · refine w_eff rfl rfl rfl ?_
                    refine g_storeB rfl ((p38.ne rfl).trans s2) s72 Try.sizeOf28 rfl rfl h_q4 rfl ?_
                    intro w65 W_w65
                    replace h_q2 := keep_wrote h_q2 W_w65 n_q4_q2
                    replace h_q4 := W_w65.here
                    replace h_q6 := keep_wrote h_q6 W_w65 n_q4_q6
                    replace h_q23 := keep_wrote h_q23 W_w65 n_q4_q23
                    replace h_q38 := keep_wrote h_q38 W_w65 n_q4_q38
                    replace o_e := own_wrote o_e W_w65 d_e_q4
                    replace hB := below_wrote hB hB.size W_w65 g_q4.le
                    clear W_w65
                    refine t_node1 (i := 1) (by kernel_rfl) ?_
                    refine w_val rfl rfl rfl ?_
                    refine g_loadB rfl ((p38.ne rfl).trans s5) Try.isAgg40 Try.sizeOf40 rfl h_q23 ?_
                    intro a39 p39
                    have s73 : a39.eval (.tmp 73) = .agg #[.int .i64 ch, .int .i64 ct, .int .i64 ds[0], .string ⟨(rest.take 24).toArray⟩] := p39.at hs (by decide)
                    replace hs := p39.st hs
                    refine t_node1 (i := 3) (by kernel_rfl) ?_
                    refine w_eff rfl rfl rfl ?_
                    refine g_storeB rfl (((p39.ne rfl).trans (p38.ne rfl)).trans s3) s73 Try.sizeOf40 rfl rfl h_q6 rfl ?_
                    intro w66 W_w66
                    replace h_q2 := keep_wrote h_q2 W_w66 n_q6_q2
                    replace h_q4 := keep_wrote h_q4 W_w66 n_q6_q4
                    replace h_q6 := W_w66.here
                    replace h_q23 := keep_wrote h_q23 W_w66 n_q6_q23
                    replace h_q38 := keep_wrote h_q38 W_w66 n_q6_q38
                    replace o_e := own_wrote o_e W_w66 d_e_q6
                    replace hB := below_wrote hB hB.size W_w66 g_q6.le
                    clear W_w66
                    refine t_node1 (i := 4) (by kernel_rfl) ?_
                    refine w_val rfl rfl rfl ?_
                    refine g_assign rfl rfl ?_
                    intro a40 p40
                    have s4 : a40.eval (.tmp 4) = .bool true := p40.at hs (by decide)
                    replace hs := p40.st hs
                    refine t_leaf (by kernel_rfl) ?_
                    replace s2 : a40.eval (.tmp 2) = .pointer (some ⟨q4, 0, none⟩) := ((p40.ne rfl).trans ((p39.ne rfl).trans (p38.ne rfl))).trans s2
                    replace s3 : a40.eval (.tmp 3) = .pointer (some ⟨q6, 0, none⟩) := ((p40.ne rfl).trans ((p39.ne rfl).trans (p38.ne rfl))).trans s3
                    refine hK61 _ _ ?_
                    clear hK61
                    refine wp_ret ?_
                    try dsimp only [Exit.then, Exit.inBlock]
                    refine ret3 hs Try.results26 (res_cell s2 h_q4 Try.isAgg28 Try.sizeOf28 rfl) (res_cell s3 h_q6 Try.isAgg40 Try.sizeOf40 rfl) (res_tmp s4) ?_
                    rw [firstOf_yes (by omega) h4] at tf1
                    rw [htf, tf1, tf2, tf3, tf4]
                    exact ⟨_, _, _, rfl, hne, o_e, hB⟩
                · refine w_val rfl rfl rfl ?_
                  refine g_loadB rfl s5 Try.isAgg40 Try.sizeOf40 rfl h_q23 ?_
                  intro a38 p38
                  have s73 : a38.eval (.tmp 73) = .agg #[.int .i64 ch, .int .i64 ct, .int .i64 ds[0], .string ⟨(rest.take 24).toArray⟩] := p38.at hs (by decide)
                  replace hs := p38.st hs
                  refine t_node1 (i := 0) (by kernel_rfl) ?_
                  refine w_val rfl rfl rfl ?_
                  refine g_loadB rfl ((p38.ne rfl).trans s6) Try.isAgg28 Try.sizeOf28 rfl h_q38 ?_
                  intro a39 p39
                  have s72 : a39.eval (.tmp 72) = .agg #[.int .i64 ch, .int .i64 ((ct + 1) % 256), .string ⟨(rest.drop 24).toArray⟩, .slice E ne ce] := p39.at hs (by decide)
                  replace hs := p39.st hs
                  refine t_node1 (i := 2) (by kernel_rfl) ?_
                  refine w_eff rfl rfl rfl ?_
                  refine g_storeB rfl (((p39.ne rfl).trans (p38.ne rfl)).trans s2) s72 Try.sizeOf28 rfl rfl h_q4 rfl ?_
                  intro w67 W_w67
                  replace h_q2 := keep_wrote h_q2 W_w67 n_q4_q2
                  replace h_q4 := W_w67.here
                  replace h_q6 := keep_wrote h_q6 W_w67 n_q4_q6
                  replace h_q23 := keep_wrote h_q23 W_w67 n_q4_q23
                  replace h_q38 := keep_wrote h_q38 W_w67 n_q4_q38
                  replace o_e := own_wrote o_e W_w67 d_e_q4
                  replace hB := below_wrote hB hB.size W_w67 g_q4.le
                  clear W_w67
                  refine t_node1 (i := 3) (by kernel_rfl) ?_
                  refine w_eff rfl rfl rfl ?_
                  refine g_storeB rfl (((p39.ne rfl).trans (p38.ne rfl)).trans s3) ((p39.ne rfl).trans s73) Try.sizeOf40 rfl rfl h_q6 rfl ?_
                  intro w68 W_w68
                  replace h_q2 := keep_wrote h_q2 W_w68 n_q6_q2
                  replace h_q4 := keep_wrote h_q4 W_w68 n_q6_q4
                  replace h_q6 := W_w68.here
                  replace h_q23 := keep_wrote h_q23 W_w68 n_q6_q23
                  replace h_q38 := keep_wrote h_q38 W_w68 n_q6_q38
                  replace o_e := own_wrote o_e W_w68 d_e_q6
                  replace hB := below_wrote hB hB.size W_w68 g_q6.le
                  clear W_w68
                  refine t_node1 (i := 4) (by kernel_rfl) ?_
                  refine w_val rfl rfl rfl ?_
                  refine g_assign rfl rfl ?_
                  intro a40 p40
                  have s4 : a40.eval (.tmp 4) = .bool true := p40.at hs (by decide)
                  replace hs := p40.st hs
                  refine t_leaf (by kernel_rfl) ?_
                  replace s2 : a40.eval (.tmp 2) = .pointer (some ⟨q4, 0, none⟩) := ((p40.ne rfl).trans ((p39.ne rfl).trans (p38.ne rfl))).trans s2
                  replace s3 : a40.eval (.tmp 3) = .pointer (some ⟨q6, 0, none⟩) := ((p40.ne rfl).trans ((p39.ne rfl).trans (p38.ne rfl))).trans s3
                  refine hK61 _ _ ?_
                  clear hK61
                  refine wp_ret ?_
                  try dsimp only [Exit.then, Exit.inBlock]
                  refine ret3 hs Try.results26 (res_cell s2 h_q4 Try.isAgg28 Try.sizeOf28 rfl) (res_cell s3 h_q6 Try.isAgg40 Try.sizeOf40 rfl) (res_tmp s4) ?_
                  rw [firstOf_yes (by omega) h4] at tf1
                  rw [htf, tf1, tf2, tf3, tf4]
                  exact ⟨_, _, _, rfl, hne, o_e, hB⟩
          · replace s39 := s39.trans (congrArg Value.bool (decide_eq_false h4))
            replace s39 : a25.eval (.tmp 39) = .bool false := s39
            refine c_false s39 ?_
            refine wp_skip ?_
            refine hK26 _ _ ?_
            clear hK26
            refine wp_seq_k fun K69 hK69 => ?_
            refine wp_drawn (n := 74) [] [11] [] (fun k_ v_ wx => match k_ with | 0 => v_ = .pointer (some ⟨q2, 0, none⟩) | 1 => v_ = .int .i64 ch | 2 => v_ = .pointer (some ⟨q2, 1, none⟩) | 3 => v_ = .int .i64 ct | 4 => v_ = .int .i64 (ct + 1) | 5 => v_ = .int .i64 ((ct + 1) % 256) | 6 => v_ = .pointer (some ⟨q2, 2, none⟩) | 7 => v_ = .string ⟨(rest).toArray⟩ | 8 => v_ = .string ⟨(rest.drop 24).toArray⟩ | 9 => v_ = .agg #[.int .i64 ch, .int .i64 ((ct + 1) % 256), .string ⟨(rest.drop 24).toArray⟩, .slice none 0 0] | 10 => ∃ q70, v_ = .pointer (some ⟨q70, 0, none⟩) ∧ w25.heap.size ≤ q70 ∧ wx.heap[q70]? = some (.cells #[.int .i64 0, .int .i64 0, .string ⟨#[]⟩, .slice none 0 0] 28 (0, 0)) | _ => True) (by kernel_rfl) (by kernel_rfl) (by kernel_rfl) (by kernel_rfl) hs.size ?_ ?_ ?_
            · intro i v wa wb hb hr
              rcases i with _ | _ | _ | _ | _ | _ | _ | _ | _ | _ | _ | _ | i
              · exact hr
              · exact hr
              · exact hr
              · exact hr
              · exact hr
              · exact hr
              · exact hr
              · exact hr
              · exact hr
              · exact hr
              · obtain ⟨q70, hr, hg, hh⟩ := hr; exact ⟨q70, hr, hg, keep_below hh hb⟩
              · trivial
              · trivial
            · refine d_step rfl rfl ?_ (d_step rfl rfl ?_ (d_step rfl rfl ?_ (d_step rfl rfl ?_ (d_step rfl rfl ?_ (d_step rfl rfl ?_ (d_step rfl rfl ?_ (d_step rfl rfl ?_ (d_step rfl rfl ?_ (d_step rfl rfl ?_ (d_step rfl rfl ?_ (d_chain rfl (d_nil))))))))))))
              · intro xv_ wx ρ hρ hwx hd K hK
                have e1 : ρ (.tmp 1) = .pointer (some ⟨q2, 0, none⟩) := (hρ.inn 1 rfl).trans s1
                refine g_field (r := 0) rfl e1 Try.underlying28 rfl (fun w => Try.sizeOf3 w) rfl rfl ?_
                exact hK _ _ (Below.refl _ _) rfl
              · intro xv_ wx ρ hρ hwx hd K hK
                obtain r0 : xv_ 0 = .pointer (some ⟨q2, 0, none⟩) := hd 0 rfl
                have e45 : ρ (.tmp 45) = .pointer (some ⟨q2, 0, none⟩) := (hρ.out 0 45 rfl (by rw [hs.size]; decide) rfl).trans r0
                have h_q2 := keep_below h_q2 hwx
                refine g_load rfl e45 Try.isAgg3 (box_cell h_q2 rfl) ?_
                exact hK _ _ (Below.refl _ _) rfl
              · intro xv_ wx ρ hρ hwx hd K hK
                have e1 : ρ (.tmp 1) = .pointer (some ⟨q2, 0, none⟩) := (hρ.inn 1 rfl).trans s1
                refine g_field (r := 1) rfl e1 Try.underlying28 rfl (fun w => Try.sizeOf3 w) rfl rfl ?_
                exact hK _ _ (Below.refl _ _) rfl
              · intro xv_ wx ρ hρ hwx hd K hK
                obtain r2 : xv_ 2 = .pointer (some ⟨q2, 1, none⟩) := hd 2 rfl
                have e47 : ρ (.tmp 47) = .pointer (some ⟨q2, 1, none⟩) := (hρ.out 2 47 rfl (by rw [hs.size]; decide) rfl).trans r2
                have h_q2 := keep_below h_q2 hwx
                refine g_load rfl e47 Try.isAgg3 (box_cell h_q2 rfl) ?_
                exact hK _ _ (Below.refl _ _) rfl
              · intro xv_ wx ρ hρ hwx hd K hK
                obtain r3 : xv_ 3 = .int .i64 ct := hd 3 rfl
                have e48 : ρ (.tmp 48) = .int .i64 ct := (hρ.out 3 48 rfl (by rw [hs.size]; decide) rfl).trans r3
                refine g_add (r := ct + 1) rfl e48 ((hρ.cst _)) (by omega) (by omega) ?_
                exact hK _ _ (Below.refl _ _) rfl
              · intro xv_ wx ρ hρ hwx hd K hK
                obtain r4 : xv_ 4 = .int .i64 (ct + 1) := hd 4 rfl
                have e49 : ρ (.tmp 49) = .int .i64 (ct + 1) := (hρ.out 4 49 rfl (by rw [hs.size]; decide) rfl).trans r4
                refine g_remI rfl e49 ((hρ.cst _)) (by omega) (by omega) (by omega) ?_
                exact hK _ _ (Below.refl _ _) rfl
              · intro xv_ wx ρ hρ hwx hd K hK
                have e1 : ρ (.tmp 1) = .pointer (some ⟨q2, 0, none⟩) := (hρ.inn 1 rfl).trans s1
                refine g_field (r := 2) rfl e1 Try.underlying28 rfl (fun w => Try.sizeOf9 w) rfl rfl ?_
                exact hK _ _ (Below.refl _ _) rfl
              · intro xv_ wx ρ hρ hwx hd K hK
                obtain r6 : xv_ 6 = .pointer (some ⟨q2, 2, none⟩) := hd 6 rfl
                have e51 : ρ (.tmp 51) = .pointer (some ⟨q2, 2, none⟩) := (hρ.out 6 51 rfl (by rw [hs.size]; decide) rfl).trans r6
                have h_q2 := keep_below h_q2 hwx
                refine g_load rfl e51 Try.isAgg9 (box_cell h_q2 rfl) ?_
                exact hK _ _ (Below.refl _ _) rfl
              · intro xv_ wx ρ hρ hwx hd K hK
                obtain r7 : xv_ 7 = .string ⟨(rest).toArray⟩ := hd 7 rfl
                have e52 : ρ (.tmp 52) = .string ⟨(rest).toArray⟩ := (hρ.out 7 52 rfl (by rw [hs.size]; decide) rfl).trans r7
                refine g_tailS (k := 24) rfl e52 ((hρ.cst _)) rfl Try.underlying9 (by omega) ?_
                exact hK _ _ (Below.refl _ _) rfl
              · intro xv_ wx ρ hρ hwx hd K hK
                obtain r1 : xv_ 1 = .int .i64 ch := hd 1 rfl
                have e46 : ρ (.tmp 46) = .int .i64 ch := (hρ.out 1 46 rfl (by rw [hs.size]; decide) rfl).trans r1
                obtain r5 : xv_ 5 = .int .i64 ((ct + 1) % 256) := hd 5 rfl
                have e50 : ρ (.tmp 50) = .int .i64 ((ct + 1) % 256) := (hρ.out 5 50 rfl (by rw [hs.size]; decide) rfl).trans r5
                obtain r8 : xv_ 8 = .string ⟨(rest.drop 24).toArray⟩ := hd 8 rfl
                have e53 : ρ (.tmp 53) = .string ⟨(rest.drop 24).toArray⟩ := (hρ.out 8 53 rfl (by rw [hs.size]; decide) rfl).trans r8
                refine g_build (cells := #[.int .i64 ch, .int .i64 ((ct + 1) % 256), .string ⟨(rest.drop 24).toArray⟩, .slice none 0 0]) rfl (arrB3 e46 e50 e53) (by kernel_rfl) ?_
                exact hK _ _ (Below.refl _ _) rfl
              · intro xv_ wx ρ hρ hwx hd K hK
                refine g_alloc rfl Try.zeroValue28 rfl ?_
                intro q w' N
                exact hK _ _ N.below ⟨q, rfl, Nat.le_trans hwx.size N.lo, N.here⟩
            · intro x0_ w71 hb_w71 hr0
              obtain r0 : x0_ 0 = .pointer (some ⟨q2, 0, none⟩) := hr0 0 (by decide) rfl rfl
              obtain r1 : x0_ 1 = .int .i64 ch := hr0 1 (by decide) rfl rfl
              obtain r2 : x0_ 2 = .pointer (some ⟨q2, 1, none⟩) := hr0 2 (by decide) rfl rfl
              obtain r3 : x0_ 3 = .int .i64 ct := hr0 3 (by decide) rfl rfl
              obtain r4 : x0_ 4 = .int .i64 (ct + 1) := hr0 4 (by decide) rfl rfl
              obtain r5 : x0_ 5 = .int .i64 ((ct + 1) % 256) := hr0 5 (by decide) rfl rfl
              obtain r6 : x0_ 6 = .pointer (some ⟨q2, 2, none⟩) := hr0 6 (by decide) rfl rfl
              obtain r7 : x0_ 7 = .string ⟨(rest).toArray⟩ := hr0 7 (by decide) rfl rfl
              obtain r8 : x0_ 8 = .string ⟨(rest.drop 24).toArray⟩ := hr0 8 (by decide) rfl rfl
              obtain r9 : x0_ 9 = .agg #[.int .i64 ch, .int .i64 ((ct + 1) % 256), .string ⟨(rest.drop 24).toArray⟩, .slice none 0 0] := hr0 9 (by decide) rfl rfl
              obtain ⟨q70, r10, g0_q70, h_q70⟩ : ∃ q70, x0_ 10 = .pointer (some ⟨q70, 0, none⟩) ∧ w25.heap.size ≤ q70 ∧ w71.heap[q70]? = some (.cells #[.int .i64 0, .int .i64 0, .string ⟨#[]⟩, .slice none 0 0] 28 (0, 0)) := hr0 10 (by decide) rfl rfl
              clear hr0
              have n_q2_q70 : NeB q2 q70 := ⟨fun e => by have := lt_of_block h_q2; omega⟩
              have n_q70_q2 := n_q2_q70.symm
              have n_q4_q70 : NeB q4 q70 := ⟨fun e => by have := lt_of_block h_q4; omega⟩
              have n_q70_q4 := n_q4_q70.symm
              have n_q6_q70 : NeB q6 q70 := ⟨fun e => by have := lt_of_block h_q6; omega⟩
              have n_q70_q6 := n_q6_q70.symm
              have n_q23_q70 : NeB q23 q70 := ⟨fun e => by have := lt_of_block h_q23; omega⟩
              have n_q70_q23 := n_q23_q70.symm
              have g_q70 : GeB w.heap.size q70 := ⟨Nat.le_trans hB.size g0_q70⟩
              clear g0_q70
              replace h_q2 := keep_below h_q2 hb_w71
              replace h_q4 := keep_below h_q4 hb_w71
              replace h_q6 := keep_below h_q6 hb_w71
              replace h_q23 := keep_below h_q23 hb_w71
              replace hB := hB.trans (hb_w71.mono hB.size)
              clear hb_w71
              intro op_ ho_ xv_ ρ hρ qx_ ql_ qk_
              obtain rfl := Option.some.inj ho_
              clear ho_
              have e6 : ρ (.tmp 6) = .pointer (some ⟨q70, 0, none⟩) := (hρ.out 10 6 rfl (by rw [hs.size]; decide) rfl).trans ((qx_ 10 (by decide) rfl rfl).trans r10)
              have e54 : ρ (.tmp 54) = .agg #[.int .i64 ch, .int .i64 ((ct + 1) % 256), .string ⟨(rest.drop 24).toArray⟩, .slice none 0 0] := (hρ.out 9 54 rfl (by rw [hs.size]; decide) rfl).trans ((qx_ 9 (by decide) rfl rfl).trans r9)
              refine g_storeB rfl e6 e54 Try.sizeOf28 rfl rfl h_q70 rfl ?_
              intro w72 W_w72
              replace h_q2 := keep_wrote h_q2 W_w72 n_q70_q2
              replace h_q4 := keep_wrote h_q4 W_w72 n_q70_q4
              replace h_q6 := keep_wrote h_q6 W_w72 n_q70_q6
              replace h_q23 := keep_wrote h_q23 W_w72 n_q70_q23
              replace h_q70 := W_w72.here
              replace hB := below_wrote hB hB.size W_w72 g_q70.le
              clear W_w72
              clear e54 e6
              clear hρ qx_ ql_ qk_
              intro xv_ a26 hρ hsz hdf qx_ ql_ qk_ qlk_
              replace s1 : a26.eval (.tmp 1) = .pointer (some ⟨q2, 0, none⟩) := (hρ.inn 1 rfl).trans s1
              replace s2 : a26.eval (.tmp 2) = .pointer (some ⟨q4, 0, none⟩) := (hρ.inn 2 rfl).trans s2
              replace s3 : a26.eval (.tmp 3) = .pointer (some ⟨q6, 0, none⟩) := (hρ.inn 3 rfl).trans s3
              replace s4 : a26.eval (.tmp 4) = .bool false := (hρ.inn 4 rfl).trans s4
              replace s5 : a26.eval (.tmp 5) = .pointer (some ⟨q23, 0, none⟩) := (hρ.inn 5 rfl).trans s5
              have s6 : a26.eval (.tmp 6) = .pointer (some ⟨q70, 0, none⟩) := (hρ.out 10 6 rfl (by rw [hs.size]; decide)).trans ((qx_ 10 (by decide) rfl rfl).trans r10)
              replace hs : St 74 a26 := ⟨hsz.trans hs.size, hdf.trans hs.nodef⟩
              clear hρ hsz hdf qx_ ql_ qk_ qlk_
              refine hK69 _ _ ?_
              clear hK69
              refine wp_seq_k fun K73 hK73 => ?_
              refine wp_seq_k fun K74 hK74 => ?_
              refine wp_region_lit ?_
              refine q_val rfl rfl ?_
              refine g_field (r := 3) rfl s1 Try.underlying28 rfl (fun w => Try.sizeOf26 w) rfl rfl ?_
              intro a27 p27
              have s55 : a27.eval (.tmp 55) = .pointer (some ⟨q2, 3, none⟩) := p27.at hs (by decide)
              replace hs := p27.st hs
              refine q_val rfl rfl ?_
              refine g_load rfl s55 Try.isAgg26 (box_cell h_q2 rfl) ?_
              intro a28 p28
              have s56 : a28.eval (.tmp 56) = .slice B ds.length dp := p28.at hs (by decide)
              replace hs := p28.st hs
              refine q_val rfl rfl ?_
              refine g_len (e := _) rfl Try.underlying26 s56 ?_
              intro a29 p29
              have s57 : a29.eval (.tmp 57) = .int .i64 ((ds.length : Nat) : Int) := p29.at hs (by decide)
              replace hs := p29.st hs
              refine q_val rfl rfl ?_
              refine g_move rfl rfl ?_
              intro a30 p30
              have s58 : a30.eval (.tmp 58) = .int .i64 0 := p30.at hs (by decide)
              replace hs := p30.st hs
              refine wpList_nil ?_
              replace s2 : a30.eval (.tmp 2) = .pointer (some ⟨q4, 0, none⟩) := ((p30.ne rfl).trans ((p29.ne rfl).trans ((p28.ne rfl).trans (p27.ne rfl)))).trans s2
              replace s3 : a30.eval (.tmp 3) = .pointer (some ⟨q6, 0, none⟩) := ((p30.ne rfl).trans ((p29.ne rfl).trans ((p28.ne rfl).trans (p27.ne rfl)))).trans s3
              replace s4 : a30.eval (.tmp 4) = .bool false := ((p30.ne rfl).trans ((p29.ne rfl).trans ((p28.ne rfl).trans (p27.ne rfl)))).trans s4
              replace s5 : a30.eval (.tmp 5) = .pointer (some ⟨q23, 0, none⟩) := ((p30.ne rfl).trans ((p29.ne rfl).trans ((p28.ne rfl).trans (p27.ne rfl)))).trans s5
              replace s6 : a30.eval (.tmp 6) = .pointer (some ⟨q70, 0, none⟩) := ((p30.ne rfl).trans ((p29.ne rfl).trans ((p28.ne rfl).trans (p27.ne rfl)))).trans s6
              replace s56 : a30.eval (.tmp 56) = .slice B ds.length dp := ((p30.ne rfl).trans (p29.ne rfl)).trans s56
              replace s57 : a30.eval (.tmp 57) = .int .i64 ((ds.length : Nat) : Int) := (p30.ne rfl).trans s57
              refine hK74 _ _ ?_
              clear hK74
              refine wp_block ?_
              have o_e : w72.ownsRow w.heap.size 3 1 (.slice none 0 0) 0 ([].flatMap cI) := World.ownsRow_nil _ _ _ _
              have g_e : ∀ b, (none : Option Addr).map (·.block) = some b → w.heap.size ≤ b := fun b h => by cases h
              have d_e_q2 : (none : Option Addr).map (·.block) ≠ some q2 := fun h => by cases h
              have d_e_q4 : (none : Option Addr).map (·.block) ≠ some q4 := fun h => by cases h
              have d_e_q6 : (none : Option Addr).map (·.block) ≠ some q6 := fun h => by cases h
              have d_e_q23 : (none : Option Addr).map (·.block) ≠ some q23 := fun h => by cases h
              have d_e_q70 : (none : Option Addr).map (·.block) ≠ some q70 := fun h => by cases h
              refine wp_loop (fun a wr => ∃ (k : Nat) (es : List Int) (E : Option Addr) (ce : Nat) (ne : Nat), (St 74 a) ∧ (a.eval (.tmp 2) = .pointer (some ⟨q4, 0, none⟩)) ∧ (a.eval (.tmp 3) = .pointer (some ⟨q6, 0, none⟩)) ∧ (a.eval (.tmp 4) = .bool false) ∧ (a.eval (.tmp 5) = .pointer (some ⟨q23, 0, none⟩)) ∧ (a.eval (.tmp 6) = .pointer (some ⟨q70, 0, none⟩)) ∧ (a.eval (.tmp 56) = .slice B ds.length dp) ∧ (a.eval (.tmp 57) = .int .i64 ((ds.length : Nat) : Int)) ∧ (a.eval (.tmp 58) = .int .i64 ((k : Nat) : Int)) ∧ (Below w.heap.size w wr) ∧ (wr.heap[q2]? = some (.cells #[.int .i64 ch, .int .i64 ct, .string ⟨(rest).toArray⟩, .slice B ds.length dp] 28 (0, 0))) ∧ (wr.heap[q4]? = some (.cells #[.int .i64 0, .int .i64 0, .string ⟨#[]⟩, .slice none 0 0] 28 (0, 0))) ∧ (wr.heap[q6]? = some (.cells #[.int .i64 0, .int .i64 0, .int .i64 0, .string ⟨#[]⟩] 40 (0, 0))) ∧ (wr.heap[q23]? = some (.cells #[.int .i64 ch, .int .i64 ct, .int .i64 255, .string ⟨(rest.take 24).toArray⟩] 40 (0, 0))) ∧ (wr.heap[q70]? = some (.cells #[.int .i64 ch, .int .i64 ((ct + 1) % 256), .string ⟨(rest.drop 24).toArray⟩, .slice E ne ce] 28 (0, 0))) ∧ (wr.ownsRow w.heap.size 3 1 (.slice E ne ce) ne (es.flatMap cI)) ∧ ((E : Option Addr).map (·.block) ≠ some q2) ∧ ((E : Option Addr).map (·.block) ≠ some q4) ∧ ((E : Option Addr).map (·.block) ≠ some q6) ∧ ((E : Option Addr).map (·.block) ≠ some q23) ∧ ((E : Option Addr).map (·.block) ≠ some q70) ∧ (∀ b, (E : Option Addr).map (·.block) = some b → w.heap.size ≤ b) ∧ (k ≤ ds.length) ∧ (es = cutDs (ds.take k)) ∧ (es.length = ne)) (fun a _ => ds.length - (intOf (a.eval (.tmp 58))).toNat) (⟨0, [], none, 0, 0, hs, s2, s3, s4, s5, s6, s56, s57, s58, hB, h_q2, h_q4, h_q6, h_q23, h_q70, o_e, d_e_q2, d_e_q4, d_e_q6, d_e_q23, d_e_q70, g_e, Nat.zero_le _, rfl, rfl⟩) ?_
              intro a31 w76 hI
              obtain ⟨k, es, E, ce, ne, hs, s2, s3, s4, s5, s6, s56, s57, s58, hB, h_q2, h_q4, h_q6, h_q23, h_q70, o_e, d_e_q2, d_e_q4, d_e_q6, d_e_q23, d_e_q70, g_e, hk, hes, hne⟩ := hI
              have mu77 := s58
              refine wp_seq_k fun K78 hK78 => ?_
              refine wp_region_lit ?_
              refine q_val rfl rfl ?_
              refine g_lss rfl s58 s57 ?_
              intro a32 p32
              have s59 : a32.eval (.tmp 59) = .bool (decide (((k : Nat) : Int) < ((ds.length : Nat) : Int))) := p32.at hs (by decide)
              replace hs := p32.st hs
              refine wpList_nil ?_
              replace s2 : a32.eval (.tmp 2) = .pointer (some ⟨q4, 0, none⟩) := (p32.ne rfl).trans s2
              replace s3 : a32.eval (.tmp 3) = .pointer (some ⟨q6, 0, none⟩) := (p32.ne rfl).trans s3
              replace s4 : a32.eval (.tmp 4) = .bool false := (p32.ne rfl).trans s4
              replace s5 : a32.eval (.tmp 5) = .pointer (some ⟨q23, 0, none⟩) := (p32.ne rfl).trans s5
              replace s6 : a32.eval (.tmp 6) = .pointer (some ⟨q70, 0, none⟩) := (p32.ne rfl).trans s6
              replace s56 : a32.eval (.tmp 56) = .slice B ds.length dp := (p32.ne rfl).trans s56
              replace s57 : a32.eval (.tmp 57) = .int .i64 ((ds.length : Nat) : Int) := (p32.ne rfl).trans s57
              replace s58 : a32.eval (.tmp 58) = .int .i64 ((k : Nat) : Int) := (p32.ne rfl).trans s58
              refine hK78 _ _ ?_
              clear hK78
              refine wp_seq_k fun K79 hK79 => ?_
              by_cases hc80 : ((k : Nat) : Int) < ((ds.length : Nat) : Int)
              · replace s59 := s59.trans (congrArg Value.bool (decide_eq_true hc80))
                replace s59 : a32.eval (.tmp 59) = .bool true := s59
                refine c_true s59 ?_
                refine wp_skip ?_
                refine hK79 _ _ ?_
                clear hK79
                refine wp_seq_k fun K81 hK81 => ?_
                refine wp_block ?_
                refine wp_seq_k fun K82 hK82 => ?_
                have hlt : k < ds.length := by omega
                have hdk := stTo_at hp6 hlt
                have hel : ne ≤ ds.length := by rw [← hne, hes]; exact Nat.le_trans (cutDs_len _) (by rw [List.length_take]; omega)
                refine wp_region_lit ?_
                obtain ⟨b83, o84, hA85, hl_hc86, hc86⟩ := Rd.get cI_len (hr_d.below hB) rfl (i := k) (by omega)
                refine q_val rfl rfl ?_
                refine g_index (r := o84 + k * 1) (k := k) rfl (s56.trans (slice_at hA85)) s58 Try.underlying26 (fun w => Try.sizeOf3 w) (by omega) rfl ?_
                intro a33 p33
                have s60 : a33.eval (.tmp 60) = .pointer (some ⟨b83, o84 + k * 1, none⟩) := p33.at hs (by decide)
                replace hs := p33.st hs
                refine q_val rfl rfl ?_
                refine g_load rfl s60 Try.isAgg3 (by first | exact hc86 0 _ (by decide) rfl | (rw [Nat.add_assoc]; exact hc86 0 _ (by decide) rfl)) ?_
                intro a34 p34
                have s61 : a34.eval (.tmp 61) = .int .i64 ds[k] := p34.at hs (by decide)
                replace hs := p34.st hs
                refine q_val rfl rfl ?_
                refine g_assign rfl s61 ?_
                intro a35 p35
                have s8 : a35.eval (.tmp 8) = .int .i64 ds[k] := p35.at hs (by decide)
                replace hs := p35.st hs
                refine wpList_nil ?_
                replace s2 : a35.eval (.tmp 2) = .pointer (some ⟨q4, 0, none⟩) := ((p35.ne rfl).trans ((p34.ne rfl).trans (p33.ne rfl))).trans s2
                replace s3 : a35.eval (.tmp 3) = .pointer (some ⟨q6, 0, none⟩) := ((p35.ne rfl).trans ((p34.ne rfl).trans (p33.ne rfl))).trans s3
                replace s4 : a35.eval (.tmp 4) = .bool false := ((p35.ne rfl).trans ((p34.ne rfl).trans (p33.ne rfl))).trans s4
                replace s5 : a35.eval (.tmp 5) = .pointer (some ⟨q23, 0, none⟩) := ((p35.ne rfl).trans ((p34.ne rfl).trans (p33.ne rfl))).trans s5
                replace s6 : a35.eval (.tmp 6) = .pointer (some ⟨q70, 0, none⟩) := ((p35.ne rfl).trans ((p34.ne rfl).trans (p33.ne rfl))).trans s6
                replace s56 : a35.eval (.tmp 56) = .slice B ds.length dp := ((p35.ne rfl).trans ((p34.ne rfl).trans (p33.ne rfl))).trans s56
                replace s57 : a35.eval (.tmp 57) = .int .i64 ((ds.length : Nat) : Int) := ((p35.ne rfl).trans ((p34.ne rfl).trans (p33.ne rfl))).trans s57
                replace s58 : a35.eval (.tmp 58) = .int .i64 ((k : Nat) : Int) := ((p35.ne rfl).trans ((p34.ne rfl).trans (p33.ne rfl))).trans s58
                replace s59 : a35.eval (.tmp 59) = .bool true := ((p35.ne rfl).trans ((p34.ne rfl).trans (p33.ne rfl))).trans s59
                refine hK82 _ _ ?_
                clear hK82
                refine wp_seq_k fun K87 hK87 => ?_
                refine wp_region_lit ?_
                refine q_val rfl rfl ?_
                refine g_move rfl s8 ?_
                intro a36 p36
                have s62 : a36.eval (.tmp 62) = .int .i64 ds[k] := p36.at hs (by decide)
                replace hs := p36.st hs
                refine q_val rfl rfl ?_
                refine g_geq rfl s62 rfl ?_
                intro a37 p37
                have s63 : a37.eval (.tmp 63) = .bool (decide (24 ≤ ds[k])) := p37.at hs (by decide)
                replace hs := p37.st hs
                refine wpList_nil ?_
                replace s2 : a37.eval (.tmp 2) = .pointer (some ⟨q4, 0, none⟩) := ((p37.ne rfl).trans (p36.ne rfl)).trans s2
                replace s3 : a37.eval (.tmp 3) = .pointer (some ⟨q6, 0, none⟩) := ((p37.ne rfl).trans (p36.ne rfl)).trans s3
                replace s4 : a37.eval (.tmp 4) = .bool false := ((p37.ne rfl).trans (p36.ne rfl)).trans s4
                replace s5 : a37.eval (.tmp 5) = .pointer (some ⟨q23, 0, none⟩) := ((p37.ne rfl).trans (p36.ne rfl)).trans s5
                replace s6 : a37.eval (.tmp 6) = .pointer (some ⟨q70, 0, none⟩) := ((p37.ne rfl).trans (p36.ne rfl)).trans s6
                replace s56 : a37.eval (.tmp 56) = .slice B ds.length dp := ((p37.ne rfl).trans (p36.ne rfl)).trans s56
                replace s57 : a37.eval (.tmp 57) = .int .i64 ((ds.length : Nat) : Int) := ((p37.ne rfl).trans (p36.ne rfl)).trans s57
                replace s58 : a37.eval (.tmp 58) = .int .i64 ((k : Nat) : Int) := ((p37.ne rfl).trans (p36.ne rfl)).trans s58
                replace s59 : a37.eval (.tmp 59) = .bool true := ((p37.ne rfl).trans (p36.ne rfl)).trans s59
                replace s8 : a37.eval (.tmp 8) = .int .i64 ds[k] := ((p37.ne rfl).trans (p36.ne rfl)).trans s8
                refine hK87 _ _ ?_
                clear hK87
                by_cases h5 : 24 ≤ ds[k]
                · replace s63 := s63.trans (congrArg Value.bool (decide_eq_true h5))
                  replace s63 : a37.eval (.tmp 63) = .bool true := s63
                  refine c_true s63 ?_
                  refine wp_region_lit ?_
                  refine q_val rfl rfl ?_
                  refine g_field (r := 3) rfl s6 Try.underlying28 rfl (fun w => Try.sizeOf26 w) rfl rfl ?_
                  intro a38 p38
                  have s64 : a38.eval (.tmp 64) = .pointer (some ⟨q70, 3, none⟩) := p38.at hs (by decide)
                  replace hs := p38.st hs
                  refine q_val rfl rfl ?_
                  refine g_load rfl s64 Try.isAgg26 (box_cell h_q70 rfl) ?_
                  intro a39 p39
                  have s65 : a39.eval (.tmp 65) = .slice E ne ce := p39.at hs (by decide)
                  replace hs := p39.st hs
                  refine q_val rfl rfl ?_
                  refine g_move rfl (((p39.ne rfl).trans (p38.ne rfl)).trans s8) ?_
                  intro a40 p40
                  have s66 : a40.eval (.tmp 66) = .int .i64 ds[k] := p40.at hs (by decide)
                  replace hs := p40.st hs
                  refine q_val rfl rfl ?_
                  refine g_sub (r := ds[k] - 24) rfl s66 rfl (by omega) (by omega) ?_
                  intro a41 p41
                  have s67 : a41.eval (.tmp 67) = .int .i64 (ds[k] - 24) := p41.at hs (by decide)
                  replace hs := p41.st hs
                  refine q_val rfl rfl ?_
                  refine g_bslice1 (cs := #[.int .i64 (ds[k] - 24)]) rfl Try.underlying26 Try.sizeOf3 Try.zeroValue3 s67 (by kernel_rfl) rfl (by decide) ?_
                  intro q88 w89 N_q88
                  have n_q2_q88 := N_q88.ne ⟨lt_of_block h_q2⟩
                  have n_q88_q2 := n_q2_q88.symm
                  have n_q4_q88 := N_q88.ne ⟨lt_of_block h_q4⟩
                  have n_q88_q4 := n_q4_q88.symm
                  have n_q6_q88 := N_q88.ne ⟨lt_of_block h_q6⟩
                  have n_q88_q6 := n_q6_q88.symm
                  have n_q23_q88 := N_q88.ne ⟨lt_of_block h_q23⟩
                  have n_q88_q23 := n_q23_q88.symm
                  have n_q70_q88 := N_q88.ne ⟨lt_of_block h_q70⟩
                  have n_q88_q70 := n_q70_q88.symm
                  have d_e_q88 := own_ne_new o_e N_q88
                  have g_q88 : GeB w.heap.size q88 := ⟨Nat.le_trans hB.size N_q88.lo⟩
                  replace h_q2 := keep_below h_q2 N_q88.below
                  replace h_q4 := keep_below h_q4 N_q88.below
                  replace h_q6 := keep_below h_q6 N_q88.below
                  replace h_q23 := keep_below h_q23 N_q88.below
                  replace h_q70 := keep_below h_q70 N_q88.below
                  replace o_e := own_below o_e N_q88.below
                  replace hB := below_new hB hB.size N_q88
                  have h_q88 := N_q88.here
                  clear N_q88
                  intro a42 p42
                  have s68 : a42.eval (.tmp 68) = .slice (some ⟨q88, 0, none⟩) 1 1 := p42.at hs (by decide)
                  replace hs := p42.st hs
                  refine q_val rfl rfl ?_
                  refine g_append (n' := ne + 1) (ys := (es ++ ([ds[k] - 24])).flatMap cI) w.heap.size (.int .i64 0) 1 8 rfl (((p42.ne rfl).trans ((p41.ne rfl).trans (p40.ne rfl))).trans s65) s68 Try.underlying26 infoI64 rfl (by decide) o_e (fun h => by cases h) (rd_box (xs := ([ds[k] - 24]).flatMap cI) h_q88 rfl rfl) (flatI_one _) (by omega) hB.size (by decide) (by omega) (by first | rfl | simp [List.flatMap_append] | (simp [List.flatMap_append, cI]; done)) ?_
                  intro A_r90 c_r90 w91 P_r90
                  have d_r90_q2 := P_r90.ne d_e_q2 (lt_of_block h_q2)
                  have d_r90_q4 := P_r90.ne d_e_q4 (lt_of_block h_q4)
                  have d_r90_q6 := P_r90.ne d_e_q6 (lt_of_block h_q6)
                  have d_r90_q23 := P_r90.ne d_e_q23 (lt_of_block h_q23)
                  have d_r90_q70 := P_r90.ne d_e_q70 (lt_of_block h_q70)
                  have d_r90_q88 := P_r90.ne d_e_q88 (lt_of_block h_q88)
                  have g_r90 := P_r90.ge g_e hB.size
                  replace h_q2 := keep_grown h_q2 P_r90.grown d_e_q2
                  replace h_q4 := keep_grown h_q4 P_r90.grown d_e_q4
                  replace h_q6 := keep_grown h_q6 P_r90.grown d_e_q6
                  replace h_q23 := keep_grown h_q23 P_r90.grown d_e_q23
                  replace h_q70 := keep_grown h_q70 P_r90.grown d_e_q70
                  replace h_q88 := keep_grown h_q88 P_r90.grown d_e_q88
                  replace hB := below_grown hB hB.size P_r90.grown g_e
                  have o_r90 := P_r90.own
                  clear P_r90
                  intro a43 p43
                  have s69 : a43.eval (.tmp 69) = .slice A_r90 (ne + 1) c_r90 := p43.at hs (by decide)
                  replace hs := p43.st hs
                  refine q_val rfl rfl ?_
                  refine g_field (r := 3) rfl (((p43.ne rfl).trans ((p42.ne rfl).trans ((p41.ne rfl).trans ((p40.ne rfl).trans ((p39.ne rfl).trans (p38.ne rfl)))))).trans s6) Try.underlying28 rfl (fun w => Try.sizeOf26 w) rfl rfl ?_
                  intro a44 p44
                  have s70 : a44.eval (.tmp 70) = .pointer (some ⟨q70, 3, none⟩) := p44.at hs (by decide)
                  replace hs := p44.st hs
                  refine q_eff rfl rfl ?_
                  refine g_store (cs' := #[.int .i64 ch, .int .i64 ((ct + 1) % 256), .string ⟨(rest.drop 24).toArray⟩, .slice A_r90 (ne + 1) c_r90]) rfl s70 ((p44.ne rfl).trans s69) Try.sizeOf26 rfl h_q70 (Nat.le_of_ble_eq_true rfl) rfl ?_
                  intro w92 W_w92
                  replace h_q2 := keep_wrote h_q2 W_w92 n_q70_q2
                  replace h_q4 := keep_wrote h_q4 W_w92 n_q70_q4
                  replace h_q6 := keep_wrote h_q6 W_w92 n_q70_q6
                  replace h_q23 := keep_wrote h_q23 W_w92 n_q70_q23
                  replace h_q70 := W_w92.here
                  replace h_q88 := keep_wrote h_q88 W_w92 n_q70_q88
                  replace o_r90 := own_wrote o_r90 W_w92 d_r90_q70
                  replace hB := below_wrote hB hB.size W_w92 g_q70.le
                  clear W_w92
                  refine wpList_nil ?_
                  replace s2 : a44.eval (.tmp 2) = .pointer (some ⟨q4, 0, none⟩) := ((p44.ne rfl).trans ((p43.ne rfl).trans ((p42.ne rfl).trans ((p41.ne rfl).trans ((p40.ne rfl).trans ((p39.ne rfl).trans (p38.ne rfl))))))).trans s2
                  replace s3 : a44.eval (.tmp 3) = .pointer (some ⟨q6, 0, none⟩) := ((p44.ne rfl).trans ((p43.ne rfl).trans ((p42.ne rfl).trans ((p41.ne rfl).trans ((p40.ne rfl).trans ((p39.ne rfl).trans (p38.ne rfl))))))).trans s3
                  replace s4 : a44.eval (.tmp 4) = .bool false := ((p44.ne rfl).trans ((p43.ne rfl).trans ((p42.ne rfl).trans ((p41.ne rfl).trans ((p40.ne rfl).trans ((p39.ne rfl).trans (p38.ne rfl))))))).trans s4
                  replace s5 : a44.eval (.tmp 5) = .pointer (some ⟨q23, 0, none⟩) := ((p44.ne rfl).trans ((p43.ne rfl).trans ((p42.ne rfl).trans ((p41.ne rfl).trans ((p40.ne rfl).trans ((p39.ne rfl).trans (p38.ne rfl))))))).trans s5
                  replace s6 : a44.eval (.tmp 6) = .pointer (some ⟨q70, 0, none⟩) := ((p44.ne rfl).trans ((p43.ne rfl).trans ((p42.ne rfl).trans ((p41.ne rfl).trans ((p40.ne rfl).trans ((p39.ne rfl).trans (p38.ne rfl))))))).trans s6
                  replace s56 : a44.eval (.tmp 56) = .slice B ds.length dp := ((p44.ne rfl).trans ((p43.ne rfl).trans ((p42.ne rfl).trans ((p41.ne rfl).trans ((p40.ne rfl).trans ((p39.ne rfl).trans (p38.ne rfl))))))).trans s56
                  replace s57 : a44.eval (.tmp 57) = .int .i64 ((ds.length : Nat) : Int) := ((p44.ne rfl).trans ((p43.ne rfl).trans ((p42.ne rfl).trans ((p41.ne rfl).trans ((p40.ne rfl).trans ((p39.ne rfl).trans (p38.ne rfl))))))).trans s57
                  replace s58 : a44.eval (.tmp 58) = .int .i64 ((k : Nat) : Int) := ((p44.ne rfl).trans ((p43.ne rfl).trans ((p42.ne rfl).trans ((p41.ne rfl).trans ((p40.ne rfl).trans ((p39.ne rfl).trans (p38.ne rfl))))))).trans s58
                  replace s59 : a44.eval (.tmp 59) = .bool true := ((p44.ne rfl).trans ((p43.ne rfl).trans ((p42.ne rfl).trans ((p41.ne rfl).trans ((p40.ne rfl).trans ((p39.ne rfl).trans (p38.ne rfl))))))).trans s59
                  replace s8 : a44.eval (.tmp 8) = .int .i64 ds[k] := ((p44.ne rfl).trans ((p43.ne rfl).trans ((p42.ne rfl).trans ((p41.ne rfl).trans ((p40.ne rfl).trans ((p39.ne rfl).trans (p38.ne rfl))))))).trans s8
                  replace s63 : a44.eval (.tmp 63) = .bool true := ((p44.ne rfl).trans ((p43.ne rfl).trans ((p42.ne rfl).trans ((p41.ne rfl).trans ((p40.ne rfl).trans ((p39.ne rfl).trans (p38.ne rfl))))))).trans s63
                  refine hK81 _ _ ?_
                  clear hK81
                  refine wp_region_lit ?_
                  refine q_val rfl rfl ?_
                  refine g_add (r := ((k + 1 : Nat) : Int)) rfl s58 rfl (by omega) (by omega) ?_
                  intro a45 p45
                  have s71 : a45.eval (.tmp 71) = .int .i64 ((k + 1 : Nat) : Int) := p45.at hs (by decide)
                  replace hs := p45.st hs
                  refine q_val rfl rfl ?_
                  refine g_move rfl s71 ?_
                  intro a46 p46
                  have s58 : a46.eval (.tmp 58) = .int .i64 ((k + 1 : Nat) : Int) := p46.at hs (by decide)
                  replace hs := p46.st hs
                  refine wpList_nil ?_
                  replace s2 : a46.eval (.tmp 2) = .pointer (some ⟨q4, 0, none⟩) := ((p46.ne rfl).trans (p45.ne rfl)).trans s2
                  replace s3 : a46.eval (.tmp 3) = .pointer (some ⟨q6, 0, none⟩) := ((p46.ne rfl).trans (p45.ne rfl)).trans s3
                  replace s4 : a46.eval (.tmp 4) = .bool false := ((p46.ne rfl).trans (p45.ne rfl)).trans s4
                  replace s5 : a46.eval (.tmp 5) = .pointer (some ⟨q23, 0, none⟩) := ((p46.ne rfl).trans (p45.ne rfl)).trans s5
                  replace s6 : a46.eval (.tmp 6) = .pointer (some ⟨q70, 0, none⟩) := ((p46.ne rfl).trans (p45.ne rfl)).trans s6
                  replace s56 : a46.eval (.tmp 56) = .slice B ds.length dp := ((p46.ne rfl).trans (p45.ne rfl)).trans s56
                  replace s57 : a46.eval (.tmp 57) = .int .i64 ((ds.length : Nat) : Int) := ((p46.ne rfl).trans (p45.ne rfl)).trans s57
                  replace s59 : a46.eval (.tmp 59) = .bool true := ((p46.ne rfl).trans (p45.ne rfl)).trans s59
                  replace s8 : a46.eval (.tmp 8) = .int .i64 ds[k] := ((p46.ne rfl).trans (p45.ne rfl)).trans s8
                  replace s63 : a46.eval (.tmp 63) = .bool true := ((p46.ne rfl).trans (p45.ne rfl)).trans s63
                  have o_e := o_r90
                  have g_e := g_r90
                  have d_e_q2 := d_r90_q2
                  have d_e_q4 := d_r90_q4
                  have d_e_q6 := d_r90_q6
                  have d_e_q23 := d_r90_q23
                  have d_e_q70 := d_r90_q70
                  refine show _ ∧ _ from ⟨⟨k + 1, es ++ ([ds[k] - 24]), _, _, _, hs, s2, s3, s4, s5, s6, s56, s57, s58, hB, h_q2, h_q4, h_q6, h_q23, h_q70, o_e, d_e_q2, d_e_q4, d_e_q6, d_e_q23, d_e_q70, g_e, (by omega), (by rw [cutDs_in hlt h5, hes]), (by rw [List.length_append, hne]; rfl)⟩, ?_⟩
                  show ds.length - (intOf (a46.eval (.tmp 58))).toNat < ds.length - (intOf (a31.eval (.tmp 58))).toNat
                  rw [s58, mu77]
                  simp only [intOf]
                  omega
                · replace s63 := s63.trans (congrArg Value.bool (decide_eq_false h5))
                  replace s63 : a37.eval (.tmp 63) = .bool false := s63
                  refine c_false s63 ?_
                  refine wp_skip ?_
                  refine hK81 _ _ ?_
                  clear hK81
                  refine wp_region_lit ?_
                  refine q_val rfl rfl ?_
                  refine g_add (r := ((k + 1 : Nat) : Int)) rfl s58 rfl (by omega) (by omega) ?_
                  intro a38 p38
                  have s71 : a38.eval (.tmp 71) = .int .i64 ((k + 1 : Nat) : Int) := p38.at hs (by decide)
                  replace hs := p38.st hs
                  refine q_val rfl rfl ?_
                  refine g_move rfl s71 ?_
                  intro a39 p39
                  have s58 : a39.eval (.tmp 58) = .int .i64 ((k + 1 : Nat) : Int) := p39.at hs (by decide)
                  replace hs := p39.st hs
                  refine wpList_nil ?_
                  replace s2 : a39.eval (.tmp 2) = .pointer (some ⟨q4, 0, none⟩) := ((p39.ne rfl).trans (p38.ne rfl)).trans s2
                  replace s3 : a39.eval (.tmp 3) = .pointer (some ⟨q6, 0, none⟩) := ((p39.ne rfl).trans (p38.ne rfl)).trans s3
                  replace s4 : a39.eval (.tmp 4) = .bool false := ((p39.ne rfl).trans (p38.ne rfl)).trans s4
                  replace s5 : a39.eval (.tmp 5) = .pointer (some ⟨q23, 0, none⟩) := ((p39.ne rfl).trans (p38.ne rfl)).trans s5
                  replace s6 : a39.eval (.tmp 6) = .pointer (some ⟨q70, 0, none⟩) := ((p39.ne rfl).trans (p38.ne rfl)).trans s6
                  replace s56 : a39.eval (.tmp 56) = .slice B ds.length dp := ((p39.ne rfl).trans (p38.ne rfl)).trans s56
                  replace s57 : a39.eval (.tmp 57) = .int .i64 ((ds.length : Nat) : Int) := ((p39.ne rfl).trans (p38.ne rfl)).trans s57
                  replace s59 : a39.eval (.tmp 59) = .bool true := ((p39.ne rfl).trans (p38.ne rfl)).trans s59
                  replace s8 : a39.eval (.tmp 8) = .int .i64 ds[k] := ((p39.ne rfl).trans (p38.ne rfl)).trans s8
                  replace s63 : a39.eval (.tmp 63) = .bool false := ((p39.ne rfl).trans (p38.ne rfl)).trans s63
                  refine show _ ∧ _ from ⟨⟨k + 1, es, _, _, _, hs, s2, s3, s4, s5, s6, s56, s57, s58, hB, h_q2, h_q4, h_q6, h_q23, h_q70, o_e, d_e_q2, d_e_q4, d_e_q6, d_e_q23, d_e_q70, g_e, (by omega), (by rw [cutDs_out hlt h5, hes]), hne⟩, ?_⟩
                  show ds.length - (intOf (a39.eval (.tmp 58))).toNat < ds.length - (intOf (a31.eval (.tmp 58))).toNat
                  rw [s58, mu77]
                  simp only [intOf]
                  omega
              · replace s59 := s59.trans (congrArg Value.bool (decide_eq_false hc80))
                replace s59 : a32.eval (.tmp 59) = .bool false := s59
                refine c_false s59 ?_
                refine wp_exit ?_
                refine hK73 _ _ ?_
                clear hK73
                refine wp_seq_k fun K93 hK93 => ?_
                have hkz : k = ds.length := by omega
                subst hkz
                rw [List.take_length] at hes
                subst hes
                refine wp_tree (n := 5) (by kernel_rfl) rfl ?_
                intro w94 hb_w94
                replace h_q2 := keep_below h_q2 hb_w94
                replace h_q4 := keep_below h_q4 hb_w94
                replace h_q6 := keep_below h_q6 hb_w94
                replace h_q23 := keep_below h_q23 hb_w94
                replace h_q70 := keep_below h_q70 hb_w94
                replace o_e := own_below o_e hb_w94
                replace hB := hB.trans (hb_w94.mono hB.size)
                clear hb_w94
                refine t_node2 (i := 0) (j := 1) (by kernel_rfl) ?_ ?_
                · refine w_val rfl rfl rfl ?_
                  refine g_loadB rfl s6 Try.isAgg28 Try.sizeOf28 rfl h_q70 ?_
                  intro a33 p33
                  have s72 : a33.eval (.tmp 72) = .agg #[.int .i64 ch, .int .i64 ((ct + 1) % 256), .string ⟨(rest.drop 24).toArray⟩, .slice E ne ce] := p33.at hs (by decide)
                  replace hs := p33.st hs
                  refine t_node2 (i := 1) (j := 2) (by kernel_rfl) ?_ ?_
                  · refine w_val rfl rfl rfl ?_
                    refine g_loadB rfl ((p33.ne rfl).trans s5) Try.isAgg40 Try.sizeOf40 rfl h_q23 ?_
                    intro a34 p34
                    have s73 : a34.eval (.tmp 73) = .agg #[.int .i64 ch, .int .i64 ct, .int .i64 255, .string ⟨(rest.take 24).toArray⟩] := p34.at hs (by decide)
                    replace hs := p34.st hs
                    refine t_node1 (i := 2) (by kernel_rfl) ?_
                    refine w_eff rfl rfl rfl ?_
                    refine g_storeB rfl (((p34.ne rfl).trans (p33.ne rfl)).trans s2) ((p34.ne rfl).trans s72) Try.sizeOf28 rfl rfl h_q4 rfl ?_
                    intro w95 W_w95
                    replace h_q2 := keep_wrote h_q2 W_w95 n_q4_q2
                    replace h_q4 := W_w95.here
                    replace h_q6 := keep_wrote h_q6 W_w95 n_q4_q6
                    replace h_q23 := keep_wrote h_q23 W_w95 n_q4_q23
                    replace h_q70 := keep_wrote h_q70 W_w95 n_q4_q70
                    replace o_e := own_wrote o_e W_w95 d_e_q4
                    replace hB := below_wrote hB hB.size W_w95 g_q4.le
                    clear W_w95
                    refine t_node1 (i := 3) (by kernel_rfl) ?_
                    refine w_eff rfl rfl rfl ?_
                    refine g_storeB rfl (((p34.ne rfl).trans (p33.ne rfl)).trans s3) s73 Try.sizeOf40 rfl rfl h_q6 rfl ?_
                    intro w96 W_w96
                    replace h_q2 := keep_wrote h_q2 W_w96 n_q6_q2
                    replace h_q4 := keep_wrote h_q4 W_w96 n_q6_q4
                    replace h_q6 := W_w96.here
                    replace h_q23 := keep_wrote h_q23 W_w96 n_q6_q23
                    replace h_q70 := keep_wrote h_q70 W_w96 n_q6_q70
                    replace o_e := own_wrote o_e W_w96 d_e_q6
                    replace hB := below_wrote hB hB.size W_w96 g_q6.le
                    clear W_w96
                    refine t_node1 (i := 4) (by kernel_rfl) ?_
                    refine w_val rfl rfl rfl ?_
                    refine g_assign rfl rfl ?_
                    intro a35 p35
                    have s4 : a35.eval (.tmp 4) = .bool true := p35.at hs (by decide)
                    replace hs := p35.st hs
                    refine t_leaf (by kernel_rfl) ?_
                    replace s2 : a35.eval (.tmp 2) = .pointer (some ⟨q4, 0, none⟩) := ((p35.ne rfl).trans ((p34.ne rfl).trans (p33.ne rfl))).trans s2
                    replace s3 : a35.eval (.tmp 3) = .pointer (some ⟨q6, 0, none⟩) := ((p35.ne rfl).trans ((p34.ne rfl).trans (p33.ne rfl))).trans s3
                    refine hK93 _ _ ?_
                    clear hK93
                    refine wp_ret ?_
                    try dsimp only [Exit.then, Exit.inBlock]
                    refine ret3 hs Try.results26 (res_cell s2 h_q4 Try.isAgg28 Try.sizeOf28 rfl) (res_cell s3 h_q6 Try.isAgg40 Try.sizeOf40 rfl) (res_tmp s4) ?_
                    rw [firstOf_no (by omega) h4] at tf1
                    rw [htf, tf1, tf2, tf3, tf4]
                    exact ⟨_, _, _, rfl, hne, o_e, hB⟩
                  · refine w_eff rfl rfl rfl ?_
                    refine g_storeB rfl ((p33.ne rfl).trans s2) s72 Try.sizeOf28 rfl rfl h_q4 rfl ?_
                    intro w97 W_w97
                    replace h_q2 := keep_wrote h_q2 W_w97 n_q4_q2
                    replace h_q4 := W_w97.here
                    replace h_q6 := keep_wrote h_q6 W_w97 n_q4_q6
                    replace h_q23 := keep_wrote h_q23 W_w97 n_q4_q23
                    replace h_q70 := keep_wrote h_q70 W_w97 n_q4_q70
                    replace o_e := own_wrote o_e W_w97 d_e_q4
                    replace hB := below_wrote hB hB.size W_w97 g_q4.le
                    clear W_w97
                    refine t_node1 (i := 1) (by kernel_rfl) ?_
                    refine w_val rfl rfl rfl ?_
                    refine g_loadB rfl ((p33.ne rfl).trans s5) Try.isAgg40 Try.sizeOf40 rfl h_q23 ?_
                    intro a34 p34
                    have s73 : a34.eval (.tmp 73) = .agg #[.int .i64 ch, .int .i64 ct, .int .i64 255, .string ⟨(rest.take 24).toArray⟩] := p34.at hs (by decide)
                    replace hs := p34.st hs
                    refine t_node1 (i := 3) (by kernel_rfl) ?_
                    refine w_eff rfl rfl rfl ?_
                    refine g_storeB rfl (((p34.ne rfl).trans (p33.ne rfl)).trans s3) s73 Try.sizeOf40 rfl rfl h_q6 rfl ?_
                    intro w98 W_w98
                    replace h_q2 := keep_wrote h_q2 W_w98 n_q6_q2
                    replace h_q4 := keep_wrote h_q4 W_w98 n_q6_q4
                    replace h_q6 := W_w98.here
                    replace h_q23 := keep_wrote h_q23 W_w98 n_q6_q23
                    replace h_q70 := keep_wrote h_q70 W_w98 n_q6_q70
                    replace o_e := own_wrote o_e W_w98 d_e_q6
                    replace hB := below_wrote hB hB.size W_w98 g_q6.le
                    clear W_w98
                    refine t_node1 (i := 4) (by kernel_rfl) ?_
                    refine w_val rfl rfl rfl ?_
                    refine g_assign rfl rfl ?_
                    intro a35 p35
                    have s4 : a35.eval (.tmp 4) = .bool true := p35.at hs (by decide)
                    replace hs := p35.st hs
                    refine t_leaf (by kernel_rfl) ?_
                    replace s2 : a35.eval (.tmp 2) = .pointer (some ⟨q4, 0, none⟩) := ((p35.ne rfl).trans ((p34.ne rfl).trans (p33.ne rfl))).trans s2
                    replace s3 : a35.eval (.tmp 3) = .pointer (some ⟨q6, 0, none⟩) := ((p35.ne rfl).trans ((p34.ne rfl).trans (p33.ne rfl))).trans s3
                    refine hK93 _ _ ?_
                    clear hK93
                    refine wp_ret ?_
                    try dsimp only [Exit.then, Exit.inBlock]
                    refine ret3 hs Try.results26 (res_cell s2 h_q4 Try.isAgg28 Try.sizeOf28 rfl) (res_cell s3 h_q6 Try.isAgg40 Try.sizeOf40 rfl) (res_tmp s4) ?_
                    rw [firstOf_no (by omega) h4] at tf1
                    rw [htf, tf1, tf2, tf3, tf4]
                    exact ⟨_, _, _, rfl, hne, o_e, hB⟩
                · refine w_val rfl rfl rfl ?_
                  refine g_loadB rfl s5 Try.isAgg40 Try.sizeOf40 rfl h_q23 ?_
                  intro a33 p33
                  have s73 : a33.eval (.tmp 73) = .agg #[.int .i64 ch, .int .i64 ct, .int .i64 255, .string ⟨(rest.take 24).toArray⟩] := p33.at hs (by decide)
                  replace hs := p33.st hs
                  refine t_node1 (i := 0) (by kernel_rfl) ?_
                  refine w_val rfl rfl rfl ?_
                  refine g_loadB rfl ((p33.ne rfl).trans s6) Try.isAgg28 Try.sizeOf28 rfl h_q70 ?_
                  intro a34 p34
                  have s72 : a34.eval (.tmp 72) = .agg #[.int .i64 ch, .int .i64 ((ct + 1) % 256), .string ⟨(rest.drop 24).toArray⟩, .slice E ne ce] := p34.at hs (by decide)
                  replace hs := p34.st hs
                  refine t_node1 (i := 2) (by kernel_rfl) ?_
                  refine w_eff rfl rfl rfl ?_
                  refine g_storeB rfl (((p34.ne rfl).trans (p33.ne rfl)).trans s2) s72 Try.sizeOf28 rfl rfl h_q4 rfl ?_
                  intro w99 W_w99
                  replace h_q2 := keep_wrote h_q2 W_w99 n_q4_q2
                  replace h_q4 := W_w99.here
                  replace h_q6 := keep_wrote h_q6 W_w99 n_q4_q6
                  replace h_q23 := keep_wrote h_q23 W_w99 n_q4_q23
                  replace h_q70 := keep_wrote h_q70 W_w99 n_q4_q70
                  replace o_e := own_wrote o_e W_w99 d_e_q4
                  replace hB := below_wrote hB hB.size W_w99 g_q4.le
                  clear W_w99
                  refine t_node1 (i := 3) (by kernel_rfl) ?_
                  refine w_eff rfl rfl rfl ?_
                  refine g_storeB rfl (((p34.ne rfl).trans (p33.ne rfl)).trans s3) ((p34.ne rfl).trans s73) Try.sizeOf40 rfl rfl h_q6 rfl ?_
                  intro w100 W_w100
                  replace h_q2 := keep_wrote h_q2 W_w100 n_q6_q2
                  replace h_q4 := keep_wrote h_q4 W_w100 n_q6_q4
                  replace h_q6 := W_w100.here
                  replace h_q23 := keep_wrote h_q23 W_w100 n_q6_q23
                  replace h_q70 := keep_wrote h_q70 W_w100 n_q6_q70
                  replace o_e := own_wrote o_e W_w100 d_e_q6
                  replace hB := below_wrote hB hB.size W_w100 g_q6.le
                  clear W_w100
                  refine t_node1 (i := 4) (by kernel_rfl) ?_
                  refine w_val rfl rfl rfl ?_
                  refine g_assign rfl rfl ?_
                  intro a35 p35
                  have s4 : a35.eval (.tmp 4) = .bool true := p35.at hs (by decide)
                  replace hs := p35.st hs
                  refine t_leaf (by kernel_rfl) ?_
                  replace s2 : a35.eval (.tmp 2) = .pointer (some ⟨q4, 0, none⟩) := ((p35.ne rfl).trans ((p34.ne rfl).trans (p33.ne rfl))).trans s2
                  replace s3 : a35.eval (.tmp 3) = .pointer (some ⟨q6, 0, none⟩) := ((p35.ne rfl).trans ((p34.ne rfl).trans (p33.ne rfl))).trans s3
                  refine hK93 _ _ ?_
                  clear hK93
                  refine wp_ret ?_
                  try dsimp only [Exit.then, Exit.inBlock]
                  refine ret3 hs Try.results26 (res_cell s2 h_q4 Try.isAgg28 Try.sizeOf28 rfl) (res_cell s3 h_q6 Try.isAgg40 Try.sizeOf40 rfl) (res_tmp s4) ?_
                  rw [firstOf_no (by omega) h4] at tf1
                  rw [htf, tf1, tf2, tf3, tf4]
                  exact ⟨_, _, _, rfl, hne, o_e, hB⟩
        · replace s32 := s32.trans (congrArg Value.bool (decide_eq_false h3))
          replace s32 : a18.eval (.tmp 32) = .bool false := s32
          replace s33 := s33.trans (congrArg Value.bool (decide_eq_false h3))
          replace s33 : a19.eval (.tmp 33) = .bool false := s33
          refine q_skip rfl rfl s33 rfl ?_
          intro a20 p20
          have s34 : a20.eval (.tmp 34) = undef := p20.at hs (by decide)
          replace hs := p20.st hs
          refine q_skip rfl rfl ((p20.ne rfl).trans s33) rfl ?_
          intro a21 p21
          have s35 : a21.eval (.tmp 35) = undef := p21.at hs (by decide)
          replace hs := p21.st hs
          refine q_skip rfl rfl (((p21.ne rfl).trans (p20.ne rfl)).trans s33) rfl ?_
          intro a22 p22
          have s36 : a22.eval (.tmp 36) = undef := p22.at hs (by decide)
          replace hs := p22.st hs
          refine q_skip rfl rfl (((p22.ne rfl).trans ((p21.ne rfl).trans (p20.ne rfl))).trans s33) rfl ?_
          intro a23 p23
          have s37 : a23.eval (.tmp 37) = undef := p23.at hs (by decide)
          replace hs := p23.st hs
          refine q_skip rfl rfl (((p23.ne rfl).trans ((p22.ne rfl).trans ((p21.ne rfl).trans (p20.ne rfl)))).trans s33) rfl ?_
          intro a24 p24
          have s38 : a24.eval (.tmp 38) = undef := p24.at hs (by decide)
          replace hs := p24.st hs
          refine q_val rfl rfl ?_
          refine g_pick_f rfl (((p24.ne rfl).trans ((p23.ne rfl).trans ((p22.ne rfl).trans ((p21.ne rfl).trans (p20.ne rfl))))).trans s33) rfl ?_
          intro a25 p25
          have s39 : a25.eval (.tmp 39) = .bool false := p25.at hs (by decide)
          replace hs := p25.st hs
          refine wpList_nil ?_
          replace s1 : a25.eval (.tmp 1) = .pointer (some ⟨q2, 0, none⟩) := ((p25.ne rfl).trans ((p24.ne rfl).trans ((p23.ne rfl).trans ((p22.ne rfl).trans ((p21.ne rfl).trans ((p20.ne rfl).trans ((p19.ne rfl).trans ((p18.ne rfl).trans ((p17.ne rfl).trans ((p16.ne rfl).trans (p15.ne rfl))))))))))).trans s1
          replace s2 : a25.eval (.tmp 2) = .pointer (some ⟨q4, 0, none⟩) := ((p25.ne rfl).trans ((p24.ne rfl).trans ((p23.ne rfl).trans ((p22.ne rfl).trans ((p21.ne rfl).trans ((p20.ne rfl).trans ((p19.ne rfl).trans ((p18.ne rfl).trans ((p17.ne rfl).trans ((p16.ne rfl).trans (p15.ne rfl))))))))))).trans s2
          replace s3 : a25.eval (.tmp 3) = .pointer (some ⟨q6, 0, none⟩) := ((p25.ne rfl).trans ((p24.ne rfl).trans ((p23.ne rfl).trans ((p22.ne rfl).trans ((p21.ne rfl).trans ((p20.ne rfl).trans ((p19.ne rfl).trans ((p18.ne rfl).trans ((p17.ne rfl).trans ((p16.ne rfl).trans (p15.ne rfl))))))))))).trans s3
          replace s4 : a25.eval (.tmp 4) = .bool false := ((p25.ne rfl).trans ((p24.ne rfl).trans ((p23.ne rfl).trans ((p22.ne rfl).trans ((p21.ne rfl).trans ((p20.ne rfl).trans ((p19.ne rfl).trans ((p18.ne rfl).trans ((p17.ne rfl).trans ((p16.ne rfl).trans (p15.ne rfl))))))))))).trans s4
          replace s5 : a25.eval (.tmp 5) = .pointer (some ⟨q23, 0, none⟩) := ((p25.ne rfl).trans ((p24.ne rfl).trans ((p23.ne rfl).trans ((p22.ne rfl).trans ((p21.ne rfl).trans ((p20.ne rfl).trans ((p19.ne rfl).trans ((p18.ne rfl).trans ((p17.ne rfl).trans ((p16.ne rfl).trans (p15.ne rfl))))))))))).trans s5
          refine hK27 _ _ ?_
          clear hK27
          refine c_false s39 ?_
          refine wp_skip ?_
          refine hK26 _ _ ?_
          clear hK26
          refine wp_seq_k fun K101 hK101 => ?_
          refine wp_drawn (n := 74) [] [11] [] (fun k_ v_ wx => match k_ with | 0 => v_ = .pointer (some ⟨q2, 0, none⟩) | 1 => v_ = .int .i64 ch | 2 => v_ = .pointer (some ⟨q2, 1, none⟩) | 3 => v_ = .int .i64 ct | 4 => v_ = .int .i64 (ct + 1) | 5 => v_ = .int .i64 ((ct + 1) % 256) | 6 => v_ = .pointer (some ⟨q2, 2, none⟩) | 7 => v_ = .string ⟨(rest).toArray⟩ | 8 => v_ = .string ⟨(rest.drop 24).toArray⟩ | 9 => v_ = .agg #[.int .i64 ch, .int .i64 ((ct + 1) % 256), .string ⟨(rest.drop 24).toArray⟩, .slice none 0 0] | 10 => ∃ q102, v_ = .pointer (some ⟨q102, 0, none⟩) ∧ w25.heap.size ≤ q102 ∧ wx.heap[q102]? = some (.cells #[.int .i64 0, .int .i64 0, .string ⟨#[]⟩, .slice none 0 0] 28 (0, 0)) | _ => True) (by kernel_rfl) (by kernel_rfl) (by kernel_rfl) (by kernel_rfl) hs.size ?_ ?_ ?_
          · intro i v wa wb hb hr
            rcases i with _ | _ | _ | _ | _ | _ | _ | _ | _ | _ | _ | _ | i
            · exact hr
            · exact hr
            · exact hr
            · exact hr
            · exact hr
            · exact hr
            · exact hr
            · exact hr
            · exact hr
            · exact hr
            · obtain ⟨q102, hr, hg, hh⟩ := hr; exact ⟨q102, hr, hg, keep_below hh hb⟩
            · trivial
            · trivial
          · refine d_step rfl rfl ?_ (d_step rfl rfl ?_ (d_step rfl rfl ?_ (d_step rfl rfl ?_ (d_step rfl rfl ?_ (d_step rfl rfl ?_ (d_step rfl rfl ?_ (d_step rfl rfl ?_ (d_step rfl rfl ?_ (d_step rfl rfl ?_ (d_step rfl rfl ?_ (d_chain rfl (d_nil))))))))))))
            · intro xv_ wx ρ hρ hwx hd K hK
              have e1 : ρ (.tmp 1) = .pointer (some ⟨q2, 0, none⟩) := (hρ.inn 1 rfl).trans s1
              refine g_field (r := 0) rfl e1 Try.underlying28 rfl (fun w => Try.sizeOf3 w) rfl rfl ?_
              exact hK _ _ (Below.refl _ _) rfl
            · intro xv_ wx ρ hρ hwx hd K hK
              obtain r0 : xv_ 0 = .pointer (some ⟨q2, 0, none⟩) := hd 0 rfl
              have e45 : ρ (.tmp 45) = .pointer (some ⟨q2, 0, none⟩) := (hρ.out 0 45 rfl (by rw [hs.size]; decide) rfl).trans r0
              have h_q2 := keep_below h_q2 hwx
              refine g_load rfl e45 Try.isAgg3 (box_cell h_q2 rfl) ?_
              exact hK _ _ (Below.refl _ _) rfl
            · intro xv_ wx ρ hρ hwx hd K hK
              have e1 : ρ (.tmp 1) = .pointer (some ⟨q2, 0, none⟩) := (hρ.inn 1 rfl).trans s1
              refine g_field (r := 1) rfl e1 Try.underlying28 rfl (fun w => Try.sizeOf3 w) rfl rfl ?_
              exact hK _ _ (Below.refl _ _) rfl
            · intro xv_ wx ρ hρ hwx hd K hK
              obtain r2 : xv_ 2 = .pointer (some ⟨q2, 1, none⟩) := hd 2 rfl
              have e47 : ρ (.tmp 47) = .pointer (some ⟨q2, 1, none⟩) := (hρ.out 2 47 rfl (by rw [hs.size]; decide) rfl).trans r2
              have h_q2 := keep_below h_q2 hwx
              refine g_load rfl e47 Try.isAgg3 (box_cell h_q2 rfl) ?_
              exact hK _ _ (Below.refl _ _) rfl
            · intro xv_ wx ρ hρ hwx hd K hK
              obtain r3 : xv_ 3 = .int .i64 ct := hd 3 rfl
              have e48 : ρ (.tmp 48) = .int .i64 ct := (hρ.out 3 48 rfl (by rw [hs.size]; decide) rfl).trans r3
              refine g_add (r := ct + 1) rfl e48 ((hρ.cst _)) (by omega) (by omega) ?_
              exact hK _ _ (Below.refl _ _) rfl
            · intro xv_ wx ρ hρ hwx hd K hK
              obtain r4 : xv_ 4 = .int .i64 (ct + 1) := hd 4 rfl
              have e49 : ρ (.tmp 49) = .int .i64 (ct + 1) := (hρ.out 4 49 rfl (by rw [hs.size]; decide) rfl).trans r4
              refine g_remI rfl e49 ((hρ.cst _)) (by omega) (by omega) (by omega) ?_
              exact hK _ _ (Below.refl _ _) rfl
            · intro xv_ wx ρ hρ hwx hd K hK
              have e1 : ρ (.tmp 1) = .pointer (some ⟨q2, 0, none⟩) := (hρ.inn 1 rfl).trans s1
              refine g_field (r := 2) rfl e1 Try.underlying28 rfl (fun w => Try.sizeOf9 w) rfl rfl ?_
              exact hK _ _ (Below.refl _ _) rfl
            · intro xv_ wx ρ hρ hwx hd K hK
              obtain r6 : xv_ 6 = .pointer (some ⟨q2, 2, none⟩) := hd 6 rfl
              have e51 : ρ (.tmp 51) = .pointer (some ⟨q2, 2, none⟩) := (hρ.out 6 51 rfl (by rw [hs.size]; decide) rfl).trans r6
              have h_q2 := keep_below h_q2 hwx
              refine g_load rfl e51 Try.isAgg9 (box_cell h_q2 rfl) ?_
              exact hK _ _ (Below.refl _ _) rfl
            · intro xv_ wx ρ hρ hwx hd K hK
              obtain r7 : xv_ 7 = .string ⟨(rest).toArray⟩ := hd 7 rfl
              have e52 : ρ (.tmp 52) = .string ⟨(rest).toArray⟩ := (hρ.out 7 52 rfl (by rw [hs.size]; decide) rfl).trans r7
              refine g_tailS (k := 24) rfl e52 ((hρ.cst _)) rfl Try.underlying9 (by omega) ?_
              exact hK _ _ (Below.refl _ _) rfl
            · intro xv_ wx ρ hρ hwx hd K hK
              obtain r1 : xv_ 1 = .int .i64 ch := hd 1 rfl
              have e46 : ρ (.tmp 46) = .int .i64 ch := (hρ.out 1 46 rfl (by rw [hs.size]; decide) rfl).trans r1
              obtain r5 : xv_ 5 = .int .i64 ((ct + 1) % 256) := hd 5 rfl
              have e50 : ρ (.tmp 50) = .int .i64 ((ct + 1) % 256) := (hρ.out 5 50 rfl (by rw [hs.size]; decide) rfl).trans r5
              obtain r8 : xv_ 8 = .string ⟨(rest.drop 24).toArray⟩ := hd 8 rfl
              have e53 : ρ (.tmp 53) = .string ⟨(rest.drop 24).toArray⟩ := (hρ.out 8 53 rfl (by rw [hs.size]; decide) rfl).trans r8
              refine g_build (cells := #[.int .i64 ch, .int .i64 ((ct + 1) % 256), .string ⟨(rest.drop 24).toArray⟩, .slice none 0 0]) rfl (arrB3 e46 e50 e53) (by kernel_rfl) ?_
              exact hK _ _ (Below.refl _ _) rfl
            · intro xv_ wx ρ hρ hwx hd K hK
              refine g_alloc rfl Try.zeroValue28 rfl ?_
              intro q w' N
              exact hK _ _ N.below ⟨q, rfl, Nat.le_trans hwx.size N.lo, N.here⟩
          · intro x0_ w103 hb_w103 hr0
            obtain r0 : x0_ 0 = .pointer (some ⟨q2, 0, none⟩) := hr0 0 (by decide) rfl rfl
            obtain r1 : x0_ 1 = .int .i64 ch := hr0 1 (by decide) rfl rfl
            obtain r2 : x0_ 2 = .pointer (some ⟨q2, 1, none⟩) := hr0 2 (by decide) rfl rfl
            obtain r3 : x0_ 3 = .int .i64 ct := hr0 3 (by decide) rfl rfl
            obtain r4 : x0_ 4 = .int .i64 (ct + 1) := hr0 4 (by decide) rfl rfl
            obtain r5 : x0_ 5 = .int .i64 ((ct + 1) % 256) := hr0 5 (by decide) rfl rfl
            obtain r6 : x0_ 6 = .pointer (some ⟨q2, 2, none⟩) := hr0 6 (by decide) rfl rfl
            obtain r7 : x0_ 7 = .string ⟨(rest).toArray⟩ := hr0 7 (by decide) rfl rfl
            obtain r8 : x0_ 8 = .string ⟨(rest.drop 24).toArray⟩ := hr0 8 (by decide) rfl rfl
            obtain r9 : x0_ 9 = .agg #[.int .i64 ch, .int .i64 ((ct + 1) % 256), .string ⟨(rest.drop 24).toArray⟩, .slice none 0 0] := hr0 9 (by decide) rfl rfl
            obtain ⟨q102, r10, g0_q102, h_q102⟩ : ∃ q102, x0_ 10 = .pointer (some ⟨q102, 0, none⟩) ∧ w25.heap.size ≤ q102 ∧ w103.heap[q102]? = some (.cells #[.int .i64 0, .int .i64 0, .string ⟨#[]⟩, .slice none 0 0] 28 (0, 0)) := hr0 10 (by decide) rfl rfl
            clear hr0
            have n_q2_q102 : NeB q2 q102 := ⟨fun e => by have := lt_of_block h_q2; omega⟩
            have n_q102_q2 := n_q2_q102.symm
            have n_q4_q102 : NeB q4 q102 := ⟨fun e => by have := lt_of_block h_q4; omega⟩
            have n_q102_q4 := n_q4_q102.symm
            have n_q6_q102 : NeB q6 q102 := ⟨fun e => by have := lt_of_block h_q6; omega⟩
            have n_q102_q6 := n_q6_q102.symm
            have n_q23_q102 : NeB q23 q102 := ⟨fun e => by have := lt_of_block h_q23; omega⟩
            have n_q102_q23 := n_q23_q102.symm
            have g_q102 : GeB w.heap.size q102 := ⟨Nat.le_trans hB.size g0_q102⟩
            clear g0_q102
            replace h_q2 := keep_below h_q2 hb_w103
            replace h_q4 := keep_below h_q4 hb_w103
            replace h_q6 := keep_below h_q6 hb_w103
            replace h_q23 := keep_below h_q23 hb_w103
            replace hB := hB.trans (hb_w103.mono hB.size)
            clear hb_w103
            intro op_ ho_ xv_ ρ hρ qx_ ql_ qk_
            obtain rfl := Option.some.inj ho_
            clear ho_
            have e6 : ρ (.tmp 6) = .pointer (some ⟨q102, 0, none⟩) := (hρ.out 10 6 rfl (by rw [hs.size]; decide) rfl).trans ((qx_ 10 (by decide) rfl rfl).trans r10)
            have e54 : ρ (.tmp 54) = .agg #[.int .i64 ch, .int .i64 ((ct + 1) % 256), .string ⟨(rest.drop 24).toArray⟩, .slice none 0 0] := (hρ.out 9 54 rfl (by rw [hs.size]; decide) rfl).trans ((qx_ 9 (by decide) rfl rfl).trans r9)
            refine g_storeB rfl e6 e54 Try.sizeOf28 rfl rfl h_q102 rfl ?_
            intro w104 W_w104
            replace h_q2 := keep_wrote h_q2 W_w104 n_q102_q2
            replace h_q4 := keep_wrote h_q4 W_w104 n_q102_q4
            replace h_q6 := keep_wrote h_q6 W_w104 n_q102_q6
            replace h_q23 := keep_wrote h_q23 W_w104 n_q102_q23
            replace h_q102 := W_w104.here
            replace hB := below_wrote hB hB.size W_w104 g_q102.le
            clear W_w104
            clear e54 e6
            clear hρ qx_ ql_ qk_
            intro xv_ a26 hρ hsz hdf qx_ ql_ qk_ qlk_
            replace s1 : a26.eval (.tmp 1) = .pointer (some ⟨q2, 0, none⟩) := (hρ.inn 1 rfl).trans s1
            replace s2 : a26.eval (.tmp 2) = .pointer (some ⟨q4, 0, none⟩) := (hρ.inn 2 rfl).trans s2
            replace s3 : a26.eval (.tmp 3) = .pointer (some ⟨q6, 0, none⟩) := (hρ.inn 3 rfl).trans s3
            replace s4 : a26.eval (.tmp 4) = .bool false := (hρ.inn 4 rfl).trans s4
            replace s5 : a26.eval (.tmp 5) = .pointer (some ⟨q23, 0, none⟩) := (hρ.inn 5 rfl).trans s5
            have s6 : a26.eval (.tmp 6) = .pointer (some ⟨q102, 0, none⟩) := (hρ.out 10 6 rfl (by rw [hs.size]; decide)).trans ((qx_ 10 (by decide) rfl rfl).trans r10)
            replace hs : St 74 a26 := ⟨hsz.trans hs.size, hdf.trans hs.nodef⟩
            clear hρ hsz hdf qx_ ql_ qk_ qlk_
            refine hK101 _ _ ?_
            clear hK101
            refine wp_seq_k fun K105 hK105 => ?_
            refine wp_seq_k fun K106 hK106 => ?_
            refine wp_region_lit ?_
            refine q_val rfl rfl ?_
            refine g_field (r := 3) rfl s1 Try.underlying28 rfl (fun w => Try.sizeOf26 w) rfl rfl ?_
            intro a27 p27
            have s55 : a27.eval (.tmp 55) = .pointer (some ⟨q2, 3, none⟩) := p27.at hs (by decide)
            replace hs := p27.st hs
            refine q_val rfl rfl ?_
            refine g_load rfl s55 Try.isAgg26 (box_cell h_q2 rfl) ?_
            intro a28 p28
            have s56 : a28.eval (.tmp 56) = .slice B ds.length dp := p28.at hs (by decide)
            replace hs := p28.st hs
            refine q_val rfl rfl ?_
            refine g_len (e := _) rfl Try.underlying26 s56 ?_
            intro a29 p29
            have s57 : a29.eval (.tmp 57) = .int .i64 ((ds.length : Nat) : Int) := p29.at hs (by decide)
            replace hs := p29.st hs
            refine q_val rfl rfl ?_
            refine g_move rfl rfl ?_
            intro a30 p30
            have s58 : a30.eval (.tmp 58) = .int .i64 0 := p30.at hs (by decide)
            replace hs := p30.st hs
            refine wpList_nil ?_
            replace s2 : a30.eval (.tmp 2) = .pointer (some ⟨q4, 0, none⟩) := ((p30.ne rfl).trans ((p29.ne rfl).trans ((p28.ne rfl).trans (p27.ne rfl)))).trans s2
            replace s3 : a30.eval (.tmp 3) = .pointer (some ⟨q6, 0, none⟩) := ((p30.ne rfl).trans ((p29.ne rfl).trans ((p28.ne rfl).trans (p27.ne rfl)))).trans s3
            replace s4 : a30.eval (.tmp 4) = .bool false := ((p30.ne rfl).trans ((p29.ne rfl).trans ((p28.ne rfl).trans (p27.ne rfl)))).trans s4
            replace s5 : a30.eval (.tmp 5) = .pointer (some ⟨q23, 0, none⟩) := ((p30.ne rfl).trans ((p29.ne rfl).trans ((p28.ne rfl).trans (p27.ne rfl)))).trans s5
            replace s6 : a30.eval (.tmp 6) = .pointer (some ⟨q102, 0, none⟩) := ((p30.ne rfl).trans ((p29.ne rfl).trans ((p28.ne rfl).trans (p27.ne rfl)))).trans s6
            replace s56 : a30.eval (.tmp 56) = .slice B ds.length dp := ((p30.ne rfl).trans (p29.ne rfl)).trans s56
            replace s57 : a30.eval (.tmp 57) = .int .i64 ((ds.length : Nat) : Int) := (p30.ne rfl).trans s57
            refine hK106 _ _ ?_
            clear hK106
            refine wp_block ?_
            have o_e : w104.ownsRow w.heap.size 3 1 (.slice none 0 0) 0 ([].flatMap cI) := World.ownsRow_nil _ _ _ _
            have g_e : ∀ b, (none : Option Addr).map (·.block) = some b → w.heap.size ≤ b := fun b h => by cases h
            have d_e_q2 : (none : Option Addr).map (·.block) ≠ some q2 := fun h => by cases h
            have d_e_q4 : (none : Option Addr).map (·.block) ≠ some q4 := fun h => by cases h
            have d_e_q6 : (none : Option Addr).map (·.block) ≠ some q6 := fun h => by cases h
            have d_e_q23 : (none : Option Addr).map (·.block) ≠ some q23 := fun h => by cases h
            have d_e_q102 : (none : Option Addr).map (·.block) ≠ some q102 := fun h => by cases h
            refine wp_loop (fun a wr => ∃ (k : Nat) (es : List Int) (E : Option Addr) (ce : Nat) (ne : Nat), (St 74 a) ∧ (a.eval (.tmp 2) = .pointer (some ⟨q4, 0, none⟩)) ∧ (a.eval (.tmp 3) = .pointer (some ⟨q6, 0, none⟩)) ∧ (a.eval (.tmp 4) = .bool false) ∧ (a.eval (.tmp 5) = .pointer (some ⟨q23, 0, none⟩)) ∧ (a.eval (.tmp 6) = .pointer (some ⟨q102, 0, none⟩)) ∧ (a.eval (.tmp 56) = .slice B ds.length dp) ∧ (a.eval (.tmp 57) = .int .i64 ((ds.length : Nat) : Int)) ∧ (a.eval (.tmp 58) = .int .i64 ((k : Nat) : Int)) ∧ (Below w.heap.size w wr) ∧ (wr.heap[q2]? = some (.cells #[.int .i64 ch, .int .i64 ct, .string ⟨(rest).toArray⟩, .slice B ds.length dp] 28 (0, 0))) ∧ (wr.heap[q4]? = some (.cells #[.int .i64 0, .int .i64 0, .string ⟨#[]⟩, .slice none 0 0] 28 (0, 0))) ∧ (wr.heap[q6]? = some (.cells #[.int .i64 0, .int .i64 0, .int .i64 0, .string ⟨#[]⟩] 40 (0, 0))) ∧ (wr.heap[q23]? = some (.cells #[.int .i64 ch, .int .i64 ct, .int .i64 255, .string ⟨(rest.take 24).toArray⟩] 40 (0, 0))) ∧ (wr.heap[q102]? = some (.cells #[.int .i64 ch, .int .i64 ((ct + 1) % 256), .string ⟨(rest.drop 24).toArray⟩, .slice E ne ce] 28 (0, 0))) ∧ (wr.ownsRow w.heap.size 3 1 (.slice E ne ce) ne (es.flatMap cI)) ∧ ((E : Option Addr).map (·.block) ≠ some q2) ∧ ((E : Option Addr).map (·.block) ≠ some q4) ∧ ((E : Option Addr).map (·.block) ≠ some q6) ∧ ((E : Option Addr).map (·.block) ≠ some q23) ∧ ((E : Option Addr).map (·.block) ≠ some q102) ∧ (∀ b, (E : Option Addr).map (·.block) = some b → w.heap.size ≤ b) ∧ (k ≤ ds.length) ∧ (es = cutDs (ds.take k)) ∧ (es.length = ne)) (fun a _ => ds.length - (intOf (a.eval (.tmp 58))).toNat) (⟨0, [], none, 0, 0, hs, s2, s3, s4, s5, s6, s56, s57, s58, hB, h_q2, h_q4, h_q6, h_q23, h_q102, o_e, d_e_q2, d_e_q4, d_e_q6, d_e_q23, d_e_q102, g_e, Nat.zero_le _, rfl, rfl⟩) ?_
            intro a31 w108 hI
            obtain ⟨k, es, E, ce, ne, hs, s2, s3, s4, s5, s6, s56, s57, s58, hB, h_q2, h_q4, h_q6, h_q23, h_q102, o_e, d_e_q2, d_e_q4, d_e_q6, d_e_q23, d_e_q102, g_e, hk, hes, hne⟩ := hI
            have mu109 := s58
            refine wp_seq_k fun K110 hK110 => ?_
            refine wp_region_lit ?_
            refine q_val rfl rfl ?_
            refine g_lss rfl s58 s57 ?_
            intro a32 p32
            have s59 : a32.eval (.tmp 59) = .bool (decide (((k : Nat) : Int) < ((ds.length : Nat) : Int))) := p32.at hs (by decide)
            replace hs := p32.st hs
            refine wpList_nil ?_
            replace s2 : a32.eval (.tmp 2) = .pointer (some ⟨q4, 0, none⟩) := (p32.ne rfl).trans s2
            replace s3 : a32.eval (.tmp 3) = .pointer (some ⟨q6, 0, none⟩) := (p32.ne rfl).trans s3
            replace s4 : a32.eval (.tmp 4) = .bool false := (p32.ne rfl).trans s4
            replace s5 : a32.eval (.tmp 5) = .pointer (some ⟨q23, 0, none⟩) := (p32.ne rfl).trans s5
            replace s6 : a32.eval (.tmp 6) = .pointer (some ⟨q102, 0, none⟩) := (p32.ne rfl).trans s6
            replace s56 : a32.eval (.tmp 56) = .slice B ds.length dp := (p32.ne rfl).trans s56
            replace s57 : a32.eval (.tmp 57) = .int .i64 ((ds.length : Nat) : Int) := (p32.ne rfl).trans s57
            replace s58 : a32.eval (.tmp 58) = .int .i64 ((k : Nat) : Int) := (p32.ne rfl).trans s58
            refine hK110 _ _ ?_
            clear hK110
            refine wp_seq_k fun K111 hK111 => ?_
            by_cases hc112 : ((k : Nat) : Int) < ((ds.length : Nat) : Int)
            · replace s59 := s59.trans (congrArg Value.bool (decide_eq_true hc112))
              replace s59 : a32.eval (.tmp 59) = .bool true := s59
              refine c_true s59 ?_
              refine wp_skip ?_
              refine hK111 _ _ ?_
              clear hK111
              refine wp_seq_k fun K113 hK113 => ?_
              refine wp_block ?_
              refine wp_seq_k fun K114 hK114 => ?_
              have hlt : k < ds.length := by omega
              have hdk := stTo_at hp6 hlt
              have hel : ne ≤ ds.length := by rw [← hne, hes]; exact Nat.le_trans (cutDs_len _) (by rw [List.length_take]; omega)
              refine wp_region_lit ?_
              obtain ⟨b115, o116, hA117, hl_hc118, hc118⟩ := Rd.get cI_len (hr_d.below hB) rfl (i := k) (by omega)
              refine q_val rfl rfl ?_
              refine g_index (r := o116 + k * 1) (k := k) rfl (s56.trans (slice_at hA117)) s58 Try.underlying26 (fun w => Try.sizeOf3 w) (by omega) rfl ?_
              intro a33 p33
              have s60 : a33.eval (.tmp 60) = .pointer (some ⟨b115, o116 + k * 1, none⟩) := p33.at hs (by decide)
              replace hs := p33.st hs
              refine q_val rfl rfl ?_
              refine g_load rfl s60 Try.isAgg3 (by first | exact hc118 0 _ (by decide) rfl | (rw [Nat.add_assoc]; exact hc118 0 _ (by decide) rfl)) ?_
              intro a34 p34
              have s61 : a34.eval (.tmp 61) = .int .i64 ds[k] := p34.at hs (by decide)
              replace hs := p34.st hs
              refine q_val rfl rfl ?_
              refine g_assign rfl s61 ?_
              intro a35 p35
              have s8 : a35.eval (.tmp 8) = .int .i64 ds[k] := p35.at hs (by decide)
              replace hs := p35.st hs
              refine wpList_nil ?_
              replace s2 : a35.eval (.tmp 2) = .pointer (some ⟨q4, 0, none⟩) := ((p35.ne rfl).trans ((p34.ne rfl).trans (p33.ne rfl))).trans s2
              replace s3 : a35.eval (.tmp 3) = .pointer (some ⟨q6, 0, none⟩) := ((p35.ne rfl).trans ((p34.ne rfl).trans (p33.ne rfl))).trans s3
              replace s4 : a35.eval (.tmp 4) = .bool false := ((p35.ne rfl).trans ((p34.ne rfl).trans (p33.ne rfl))).trans s4
              replace s5 : a35.eval (.tmp 5) = .pointer (some ⟨q23, 0, none⟩) := ((p35.ne rfl).trans ((p34.ne rfl).trans (p33.ne rfl))).trans s5
              replace s6 : a35.eval (.tmp 6) = .pointer (some ⟨q102, 0, none⟩) := ((p35.ne rfl).trans ((p34.ne rfl).trans (p33.ne rfl))).trans s6
              replace s56 : a35.eval (.tmp 56) = .slice B ds.length dp := ((p35.ne rfl).trans ((p34.ne rfl).trans (p33.ne rfl))).trans s56
              replace s57 : a35.eval (.tmp 57) = .int .i64 ((ds.length : Nat) : Int) := ((p35.ne rfl).trans ((p34.ne rfl).trans (p33.ne rfl))).trans s57
              replace s58 : a35.eval (.tmp 58) = .int .i64 ((k : Nat) : Int) := ((p35.ne rfl).trans ((p34.ne rfl).trans (p33.ne rfl))).trans s58
              replace s59 : a35.eval (.tmp 59) = .bool true := ((p35.ne rfl).trans ((p34.ne rfl).trans (p33.ne rfl))).trans s59
              refine hK114 _ _ ?_
              clear hK114
              refine wp_seq_k fun K119 hK119 => ?_
              refine wp_region_lit ?_
              refine q_val rfl rfl ?_
              refine g_move rfl s8 ?_
              intro a36 p36
              have s62 : a36.eval (.tmp 62) = .int .i64 ds[k] := p36.at hs (by decide)
              replace hs := p36.st hs
              refine q_val rfl rfl ?_
              refine g_geq rfl s62 rfl ?_
              intro a37 p37
              have s63 : a37.eval (.tmp 63) = .bool (decide (24 ≤ ds[k])) := p37.at hs (by decide)
              replace hs := p37.st hs
              refine wpList_nil ?_
              replace s2 : a37.eval (.tmp 2) = .pointer (some ⟨q4, 0, none⟩) := ((p37.ne rfl).trans (p36.ne rfl)).trans s2
              replace s3 : a37.eval (.tmp 3) = .pointer (some ⟨q6, 0, none⟩) := ((p37.ne rfl).trans (p36.ne rfl)).trans s3
              replace s4 : a37.eval (.tmp 4) = .bool false := ((p37.ne rfl).trans (p36.ne rfl)).trans s4
              replace s5 : a37.eval (.tmp 5) = .pointer (some ⟨q23, 0, none⟩) := ((p37.ne rfl).trans (p36.ne rfl)).trans s5
              replace s6 : a37.eval (.tmp 6) = .pointer (some ⟨q102, 0, none⟩) := ((p37.ne rfl).trans (p36.ne rfl)).trans s6
              replace s56 : a37.eval (.tmp 56) = .slice B ds.length dp := ((p37.ne rfl).trans (p36.ne rfl)).trans s56
              replace s57 : a37.eval (.tmp 57) = .int .i64 ((ds.length : Nat) : Int) := ((p37.ne rfl).trans (p36.ne rfl)).trans s57
              replace s58 : a37.eval (.tmp 58) = .int .i64 ((k : Nat) : Int) := ((p37.ne rfl).trans (p36.ne rfl)).trans s58
              replace s59 : a37.eval (.tmp 59) = .bool true := ((p37.ne rfl).trans (p36.ne rfl)).trans s59
              replace s8 : a37.eval (.tmp 8) = .int .i64 ds[k] := ((p37.ne rfl).trans (p36.ne rfl)).trans s8
              refine hK119 _ _ ?_
              clear hK119
              by_cases h5 : 24 ≤ ds[k]
              · replace s63 := s63.trans (congrArg Value.bool (decide_eq_true h5))
                replace s63 : a37.eval (.tmp 63) = .bool true := s63
                refine c_true s63 ?_
                refine wp_region_lit ?_
                refine q_val rfl rfl ?_
                refine g_field (r := 3) rfl s6 Try.underlying28 rfl (fun w => Try.sizeOf26 w) rfl rfl ?_
                intro a38 p38
                have s64 : a38.eval (.tmp 64) = .pointer (some ⟨q102, 3, none⟩) := p38.at hs (by decide)
                replace hs := p38.st hs
                refine q_val rfl rfl ?_
                refine g_load rfl s64 Try.isAgg26 (box_cell h_q102 rfl) ?_
                intro a39 p39
                have s65 : a39.eval (.tmp 65) = .slice E ne ce := p39.at hs (by decide)
                replace hs := p39.st hs
                refine q_val rfl rfl ?_
                refine g_move rfl (((p39.ne rfl).trans (p38.ne rfl)).trans s8) ?_
                intro a40 p40
                have s66 : a40.eval (.tmp 66) = .int .i64 ds[k] := p40.at hs (by decide)
                replace hs := p40.st hs
                refine q_val rfl rfl ?_
                refine g_sub (r := ds[k] - 24) rfl s66 rfl (by omega) (by omega) ?_
                intro a41 p41
                have s67 : a41.eval (.tmp 67) = .int .i64 (ds[k] - 24) := p41.at hs (by decide)
                replace hs := p41.st hs
                refine q_val rfl rfl ?_
                refine g_bslice1 (cs := #[.int .i64 (ds[k] - 24)]) rfl Try.underlying26 Try.sizeOf3 Try.zeroValue3 s67 (by kernel_rfl) rfl (by decide) ?_
                intro q120 w121 N_q120
                have n_q2_q120 := N_q120.ne ⟨lt_of_block h_q2⟩
                have n_q120_q2 := n_q2_q120.symm
                have n_q4_q120 := N_q120.ne ⟨lt_of_block h_q4⟩
                have n_q120_q4 := n_q4_q120.symm
                have n_q6_q120 := N_q120.ne ⟨lt_of_block h_q6⟩
                have n_q120_q6 := n_q6_q120.symm
                have n_q23_q120 := N_q120.ne ⟨lt_of_block h_q23⟩
                have n_q120_q23 := n_q23_q120.symm
                have n_q102_q120 := N_q120.ne ⟨lt_of_block h_q102⟩
                have n_q120_q102 := n_q102_q120.symm
                have d_e_q120 := own_ne_new o_e N_q120
                have g_q120 : GeB w.heap.size q120 := ⟨Nat.le_trans hB.size N_q120.lo⟩
                replace h_q2 := keep_below h_q2 N_q120.below
                replace h_q4 := keep_below h_q4 N_q120.below
                replace h_q6 := keep_below h_q6 N_q120.below
                replace h_q23 := keep_below h_q23 N_q120.below
                replace h_q102 := keep_below h_q102 N_q120.below
                replace o_e := own_below o_e N_q120.below
                replace hB := below_new hB hB.size N_q120
                have h_q120 := N_q120.here
                clear N_q120
                intro a42 p42
                have s68 : a42.eval (.tmp 68) = .slice (some ⟨q120, 0, none⟩) 1 1 := p42.at hs (by decide)
                replace hs := p42.st hs
                refine q_val rfl rfl ?_
                refine g_append (n' := ne + 1) (ys := (es ++ ([ds[k] - 24])).flatMap cI) w.heap.size (.int .i64 0) 1 8 rfl (((p42.ne rfl).trans ((p41.ne rfl).trans (p40.ne rfl))).trans s65) s68 Try.underlying26 infoI64 rfl (by decide) o_e (fun h => by cases h) (rd_box (xs := ([ds[k] - 24]).flatMap cI) h_q120 rfl rfl) (flatI_one _) (by omega) hB.size (by decide) (by omega) (by first | rfl | simp [List.flatMap_append] | (simp [List.flatMap_append, cI]; done)) ?_
                intro A_r122 c_r122 w123 P_r122
                have d_r122_q2 := P_r122.ne d_e_q2 (lt_of_block h_q2)
                have d_r122_q4 := P_r122.ne d_e_q4 (lt_of_block h_q4)
                have d_r122_q6 := P_r122.ne d_e_q6 (lt_of_block h_q6)
                have d_r122_q23 := P_r122.ne d_e_q23 (lt_of_block h_q23)
                have d_r122_q102 := P_r122.ne d_e_q102 (lt_of_block h_q102)
                have d_r122_q120 := P_r122.ne d_e_q120 (lt_of_block h_q120)
                have g_r122 := P_r122.ge g_e hB.size
                replace h_q2 := keep_grown h_q2 P_r122.grown d_e_q2
                replace h_q4 := keep_grown h_q4 P_r122.grown d_e_q4
                replace h_q6 := keep_grown h_q6 P_r122.grown d_e_q6
                replace h_q23 := keep_grown h_q23 P_r122.grown d_e_q23
                replace h_q102 := keep_grown h_q102 P_r122.grown d_e_q102
                replace h_q120 := keep_grown h_q120 P_r122.grown d_e_q120
                replace hB := below_grown hB hB.size P_r122.grown g_e
                have o_r122 := P_r122.own
                clear P_r122
                intro a43 p43
                have s69 : a43.eval (.tmp 69) = .slice A_r122 (ne + 1) c_r122 := p43.at hs (by decide)
                replace hs := p43.st hs
                refine q_val rfl rfl ?_
                refine g_field (r := 3) rfl (((p43.ne rfl).trans ((p42.ne rfl).trans ((p41.ne rfl).trans ((p40.ne rfl).trans ((p39.ne rfl).trans (p38.ne rfl)))))).trans s6) Try.underlying28 rfl (fun w => Try.sizeOf26 w) rfl rfl ?_
                intro a44 p44
                have s70 : a44.eval (.tmp 70) = .pointer (some ⟨q102, 3, none⟩) := p44.at hs (by decide)
                replace hs := p44.st hs
                refine q_eff rfl rfl ?_
                refine g_store (cs' := #[.int .i64 ch, .int .i64 ((ct + 1) % 256), .string ⟨(rest.drop 24).toArray⟩, .slice A_r122 (ne + 1) c_r122]) rfl s70 ((p44.ne rfl).trans s69) Try.sizeOf26 rfl h_q102 (Nat.le_of_ble_eq_true rfl) rfl ?_
                intro w124 W_w124
                replace h_q2 := keep_wrote h_q2 W_w124 n_q102_q2
                replace h_q4 := keep_wrote h_q4 W_w124 n_q102_q4
                replace h_q6 := keep_wrote h_q6 W_w124 n_q102_q6
                replace h_q23 := keep_wrote h_q23 W_w124 n_q102_q23
                replace h_q102 := W_w124.here
                replace h_q120 := keep_wrote h_q120 W_w124 n_q102_q120
                replace o_r122 := own_wrote o_r122 W_w124 d_r122_q102
                replace hB := below_wrote hB hB.size W_w124 g_q102.le
                clear W_w124
                refine wpList_nil ?_
                replace s2 : a44.eval (.tmp 2) = .pointer (some ⟨q4, 0, none⟩) := ((p44.ne rfl).trans ((p43.ne rfl).trans ((p42.ne rfl).trans ((p41.ne rfl).trans ((p40.ne rfl).trans ((p39.ne rfl).trans (p38.ne rfl))))))).trans s2
                replace s3 : a44.eval (.tmp 3) = .pointer (some ⟨q6, 0, none⟩) := ((p44.ne rfl).trans ((p43.ne rfl).trans ((p42.ne rfl).trans ((p41.ne rfl).trans ((p40.ne rfl).trans ((p39.ne rfl).trans (p38.ne rfl))))))).trans s3
                replace s4 : a44.eval (.tmp 4) = .bool false := ((p44.ne rfl).trans ((p43.ne rfl).trans ((p42.ne rfl).trans ((p41.ne rfl).trans ((p40.ne rfl).trans ((p39.ne rfl).trans (p38.ne rfl))))))).trans s4
                replace s5 : a44.eval (.tmp 5) = .pointer (some ⟨q23, 0, none⟩) := ((p44.ne rfl).trans ((p43.ne rfl).trans ((p42.ne rfl).trans ((p41.ne rfl).trans ((p40.ne rfl).trans ((p39.ne rfl).trans (p38.ne rfl))))))).trans s5
                replace s6 : a44.eval (.tmp 6) = .pointer (some ⟨q102, 0, none⟩) := ((p44.ne rfl).trans ((p43.ne rfl).trans ((p42.ne rfl).trans ((p41.ne rfl).trans ((p40.ne rfl).trans ((p39.ne rfl).trans (p38.ne rfl))))))).trans s6
                replace s56 : a44.eval (.tmp 56) = .slice B ds.length dp := ((p44.ne rfl).trans ((p43.ne rfl).trans ((p42.ne rfl).trans ((p41.ne rfl).trans ((p40.ne rfl).trans ((p39.ne rfl).trans (p38.ne rfl))))))).trans s56
                replace s57 : a44.eval (.tmp 57) = .int .i64 ((ds.length : Nat) : Int) := ((p44.ne rfl).trans ((p43.ne rfl).trans ((p42.ne rfl).trans ((p41.ne rfl).trans ((p40.ne rfl).trans ((p39.ne rfl).trans (p38.ne rfl))))))).trans s57
                replace s58 : a44.eval (.tmp 58) = .int .i64 ((k : Nat) : Int) := ((p44.ne rfl).trans ((p43.ne rfl).trans ((p42.ne rfl).trans ((p41.ne rfl).trans ((p40.ne rfl).trans ((p39.ne rfl).trans (p38.ne rfl))))))).trans s58
                replace s59 : a44.eval (.tmp 59) = .bool true := ((p44.ne rfl).trans ((p43.ne rfl).trans ((p42.ne rfl).trans ((p41.ne rfl).trans ((p40.ne rfl).trans ((p39.ne rfl).trans (p38.ne rfl))))))).trans s59
                replace s8 : a44.eval (.tmp 8) = .int .i64 ds[k] := ((p44.ne rfl).trans ((p43.ne rfl).trans ((p42.ne rfl).trans ((p41.ne rfl).trans ((p40.ne rfl).trans ((p39.ne rfl).trans (p38.ne rfl))))))).trans s8
                replace s63 : a44.eval (.tmp 63) = .bool true := ((p44.ne rfl).trans ((p43.ne rfl).trans ((p42.ne rfl).trans ((p41.ne rfl).trans ((p40.ne rfl).trans ((p39.ne rfl).trans (p38.ne rfl))))))).trans s63
                refine hK113 _ _ ?_
                clear hK113
                refine wp_region_lit ?_
                refine q_val rfl rfl ?_
                refine g_add (r := ((k + 1 : Nat) : Int)) rfl s58 rfl (by omega) (by omega) ?_
                intro a45 p45
                have s71 : a45.eval (.tmp 71) = .int .i64 ((k + 1 : Nat) : Int) := p45.at hs (by decide)
                replace hs := p45.st hs
                refine q_val rfl rfl ?_
                refine g_move rfl s71 ?_
                intro a46 p46
                have s58 : a46.eval (.tmp 58) = .int .i64 ((k + 1 : Nat) : Int) := p46.at hs (by decide)
                replace hs := p46.st hs
                refine wpList_nil ?_
                replace s2 : a46.eval (.tmp 2) = .pointer (some ⟨q4, 0, none⟩) := ((p46.ne rfl).trans (p45.ne rfl)).trans s2
                replace s3 : a46.eval (.tmp 3) = .pointer (some ⟨q6, 0, none⟩) := ((p46.ne rfl).trans (p45.ne rfl)).trans s3
                replace s4 : a46.eval (.tmp 4) = .bool false := ((p46.ne rfl).trans (p45.ne rfl)).trans s4
                replace s5 : a46.eval (.tmp 5) = .pointer (some ⟨q23, 0, none⟩) := ((p46.ne rfl).trans (p45.ne rfl)).trans s5
                replace s6 : a46.eval (.tmp 6) = .pointer (some ⟨q102, 0, none⟩) := ((p46.ne rfl).trans (p45.ne rfl)).trans s6
                replace s56 : a46.eval (.tmp 56) = .slice B ds.length dp := ((p46.ne rfl).trans (p45.ne rfl)).trans s56
                replace s57 : a46.eval (.tmp 57) = .int .i64 ((ds.length : Nat) : Int) := ((p46.ne rfl).trans (p45.ne rfl)).trans s57
                replace s59 : a46.eval (.tmp 59) = .bool true := ((p46.ne rfl).trans (p45.ne rfl)).trans s59
                replace s8 : a46.eval (.tmp 8) = .int .i64 ds[k] := ((p46.ne rfl).trans (p45.ne rfl)).trans s8
                replace s63 : a46.eval (.tmp 63) = .bool true := ((p46.ne rfl).trans (p45.ne rfl)).trans s63
                have o_e := o_r122
                have g_e := g_r122
                have d_e_q2 := d_r122_q2
                have d_e_q4 := d_r122_q4
                have d_e_q6 := d_r122_q6
                have d_e_q23 := d_r122_q23
                have d_e_q102 := d_r122_q102
                refine show _ ∧ _ from ⟨⟨k + 1, es ++ ([ds[k] - 24]), _, _, _, hs, s2, s3, s4, s5, s6, s56, s57, s58, hB, h_q2, h_q4, h_q6, h_q23, h_q102, o_e, d_e_q2, d_e_q4, d_e_q6, d_e_q23, d_e_q102, g_e, (by omega), (by rw [cutDs_in hlt h5, hes]), (by rw [List.length_append, hne]; rfl)⟩, ?_⟩
                show ds.length - (intOf (a46.eval (.tmp 58))).toNat < ds.length - (intOf (a31.eval (.tmp 58))).toNat
                rw [s58, mu109]
                simp only [intOf]
                omega
              · replace s63 := s63.trans (congrArg Value.bool (decide_eq_false h5))
                replace s63 : a37.eval (.tmp 63) = .bool false := s63
                refine c_false s63 ?_
                refine wp_skip ?_
                refine hK113 _ _ ?_
                clear hK113
                refine wp_region_lit ?_
                refine q_val rfl rfl ?_
                refine g_add (r := ((k + 1 : Nat) : Int)) rfl s58 rfl (by omega) (by omega) ?_
                intro a38 p38
                have s71 : a38.eval (.tmp 71) = .int .i64 ((k + 1 : Nat) : Int) := p38.at hs (by decide)
                replace hs := p38.st hs
                refine q_val rfl rfl ?_
                refine g_move rfl s71 ?_
                intro a39 p39
                have s58 : a39.eval (.tmp 58) = .int .i64 ((k + 1 : Nat) : Int) := p39.at hs (by decide)
                replace hs := p39.st hs
                refine wpList_nil ?_
                replace s2 : a39.eval (.tmp 2) = .pointer (some ⟨q4, 0, none⟩) := ((p39.ne rfl).trans (p38.ne rfl)).trans s2
                replace s3 : a39.eval (.tmp 3) = .pointer (some ⟨q6, 0, none⟩) := ((p39.ne rfl).trans (p38.ne rfl)).trans s3
                replace s4 : a39.eval (.tmp 4) = .bool false := ((p39.ne rfl).trans (p38.ne rfl)).trans s4
                replace s5 : a39.eval (.tmp 5) = .pointer (some ⟨q23, 0, none⟩) := ((p39.ne rfl).trans (p38.ne rfl)).trans s5
                replace s6 : a39.eval (.tmp 6) = .pointer (some ⟨q102, 0, none⟩) := ((p39.ne rfl).trans (p38.ne rfl)).trans s6
                replace s56 : a39.eval (.tmp 56) = .slice B ds.length dp := ((p39.ne rfl).trans (p38.ne rfl)).trans s56
                replace s57 : a39.eval (.tmp 57) = .int .i64 ((ds.length : Nat) : Int) := ((p39.ne rfl).trans (p38.ne rfl)).trans s57
                replace s59 : a39.eval (.tmp 59) = .bool true := ((p39.ne rfl).trans (p38.ne rfl)).trans s59
                replace s8 : a39.eval (.tmp 8) = .int .i64 ds[k] := ((p39.ne rfl).trans (p38.ne rfl)).trans s8
                replace s63 : a39.eval (.tmp 63) = .bool false := ((p39.ne rfl).trans (p38.ne rfl)).trans s63
                refine show _ ∧ _ from ⟨⟨k + 1, es, _, _, _, hs, s2, s3, s4, s5, s6, s56, s57, s58, hB, h_q2, h_q4, h_q6, h_q23, h_q102, o_e, d_e_q2, d_e_q4, d_e_q6, d_e_q23, d_e_q102, g_e, (by omega), (by rw [cutDs_out hlt h5, hes]), hne⟩, ?_⟩
                show ds.length - (intOf (a39.eval (.tmp 58))).toNat < ds.length - (intOf (a31.eval (.tmp 58))).toNat
                rw [s58, mu109]
                simp only [intOf]
                omega
            · replace s59 := s59.trans (congrArg Value.bool (decide_eq_false hc112))
              replace s59 : a32.eval (.tmp 59) = .bool false := s59
              refine c_false s59 ?_
              refine wp_exit ?_
              refine hK105 _ _ ?_
              clear hK105
              refine wp_seq_k fun K125 hK125 => ?_
              have hkz : k = ds.length := by omega
              subst hkz
              rw [List.take_length] at hes
              subst hes
              refine wp_tree (n := 5) (by kernel_rfl) rfl ?_
              intro w126 hb_w126
              replace h_q2 := keep_below h_q2 hb_w126
              replace h_q4 := keep_below h_q4 hb_w126
              replace h_q6 := keep_below h_q6 hb_w126
              replace h_q23 := keep_below h_q23 hb_w126
              replace h_q102 := keep_below h_q102 hb_w126
              replace o_e := own_below o_e hb_w126
              replace hB := hB.trans (hb_w126.mono hB.size)
              clear hb_w126
              refine t_node2 (i := 0) (j := 1) (by kernel_rfl) ?_ ?_
              · refine w_val rfl rfl rfl ?_
                refine g_loadB rfl s6 Try.isAgg28 Try.sizeOf28 rfl h_q102 ?_
                intro a33 p33
                have s72 : a33.eval (.tmp 72) = .agg #[.int .i64 ch, .int .i64 ((ct + 1) % 256), .string ⟨(rest.drop 24).toArray⟩, .slice E ne ce] := p33.at hs (by decide)
                replace hs := p33.st hs
                refine t_node2 (i := 1) (j := 2) (by kernel_rfl) ?_ ?_
                · refine w_val rfl rfl rfl ?_
                  refine g_loadB rfl ((p33.ne rfl).trans s5) Try.isAgg40 Try.sizeOf40 rfl h_q23 ?_
                  intro a34 p34
                  have s73 : a34.eval (.tmp 73) = .agg #[.int .i64 ch, .int .i64 ct, .int .i64 255, .string ⟨(rest.take 24).toArray⟩] := p34.at hs (by decide)
                  replace hs := p34.st hs
                  refine t_node1 (i := 2) (by kernel_rfl) ?_
                  refine w_eff rfl rfl rfl ?_
                  refine g_storeB rfl (((p34.ne rfl).trans (p33.ne rfl)).trans s2) ((p34.ne rfl).trans s72) Try.sizeOf28 rfl rfl h_q4 rfl ?_
                  intro w127 W_w127
                  replace h_q2 := keep_wrote h_q2 W_w127 n_q4_q2
                  replace h_q4 := W_w127.here
                  replace h_q6 := keep_wrote h_q6 W_w127 n_q4_q6
                  replace h_q23 := keep_wrote h_q23 W_w127 n_q4_q23
                  replace h_q102 := keep_wrote h_q102 W_w127 n_q4_q102
                  replace o_e := own_wrote o_e W_w127 d_e_q4
                  replace hB := below_wrote hB hB.size W_w127 g_q4.le
                  clear W_w127
                  refine t_node1 (i := 3) (by kernel_rfl) ?_
                  refine w_eff rfl rfl rfl ?_
                  refine g_storeB rfl (((p34.ne rfl).trans (p33.ne rfl)).trans s3) s73 Try.sizeOf40 rfl rfl h_q6 rfl ?_
                  intro w128 W_w128
                  replace h_q2 := keep_wrote h_q2 W_w128 n_q6_q2
                  replace h_q4 := keep_wrote h_q4 W_w128 n_q6_q4
                  replace h_q6 := W_w128.here
                  replace h_q23 := keep_wrote h_q23 W_w128 n_q6_q23
                  replace h_q102 := keep_wrote h_q102 W_w128 n_q6_q102
                  replace o_e := own_wrote o_e W_w128 d_e_q6
                  replace hB := below_wrote hB hB.size W_w128 g_q6.le
                  clear W_w128
                  refine t_node1 (i := 4) (by kernel_rfl) ?_
                  refine w_val rfl rfl rfl ?_
                  refine g_assign rfl rfl ?_
                  intro a35 p35
                  have s4 : a35.eval (.tmp 4) = .bool true := p35.at hs (by decide)
                  replace hs := p35.st hs
                  refine t_leaf (by kernel_rfl) ?_
                  replace s2 : a35.eval (.tmp 2) = .pointer (some ⟨q4, 0, none⟩) := ((p35.ne rfl).trans ((p34.ne rfl).trans (p33.ne rfl))).trans s2
                  replace s3 : a35.eval (.tmp 3) = .pointer (some ⟨q6, 0, none⟩) := ((p35.ne rfl).trans ((p34.ne rfl).trans (p33.ne rfl))).trans s3
                  refine hK125 _ _ ?_
                  clear hK125
                  refine wp_ret ?_
                  try dsimp only [Exit.then, Exit.inBlock]
                  refine ret3 hs Try.results26 (res_cell s2 h_q4 Try.isAgg28 Try.sizeOf28 rfl) (res_cell s3 h_q6 Try.isAgg40 Try.sizeOf40 rfl) (res_tmp s4) ?_
                  rw [firstOf_nil (by omega)] at tf1
                  rw [htf, tf1, tf2, tf3, tf4]
                  exact ⟨_, _, _, rfl, hne, o_e, hB⟩
                · refine w_eff rfl rfl rfl ?_
                  refine g_storeB rfl ((p33.ne rfl).trans s2) s72 Try.sizeOf28 rfl rfl h_q4 rfl ?_
                  intro w129 W_w129
                  replace h_q2 := keep_wrote h_q2 W_w129 n_q4_q2
                  replace h_q4 := W_w129.here
                  replace h_q6 := keep_wrote h_q6 W_w129 n_q4_q6
                  replace h_q23 := keep_wrote h_q23 W_w129 n_q4_q23
                  replace h_q102 := keep_wrote h_q102 W_w129 n_q4_q102
                  replace o_e := own_wrote o_e W_w129 d_e_q4
                  replace hB := below_wrote hB hB.size W_w129 g_q4.le
                  clear W_w129
                  refine t_node1 (i := 1) (by kernel_rfl) ?_
                  refine w_val rfl rfl rfl ?_
                  refine g_loadB rfl ((p33.ne rfl).trans s5) Try.isAgg40 Try.sizeOf40 rfl h_q23 ?_
                  intro a34 p34
                  have s73 : a34.eval (.tmp 73) = .agg #[.int .i64 ch, .int .i64 ct, .int .i64 255, .string ⟨(rest.take 24).toArray⟩] := p34.at hs (by decide)
                  replace hs := p34.st hs
                  refine t_node1 (i := 3) (by kernel_rfl) ?_
                  refine w_eff rfl rfl rfl ?_
                  refine g_storeB rfl (((p34.ne rfl).trans (p33.ne rfl)).trans s3) s73 Try.sizeOf40 rfl rfl h_q6 rfl ?_
                  intro w130 W_w130
                  replace h_q2 := keep_wrote h_q2 W_w130 n_q6_q2
                  replace h_q4 := keep_wrote h_q4 W_w130 n_q6_q4
                  replace h_q6 := W_w130.here
                  replace h_q23 := keep_wrote h_q23 W_w130 n_q6_q23
                  replace h_q102 := keep_wrote h_q102 W_w130 n_q6_q102
                  replace o_e := own_wrote o_e W_w130 d_e_q6
                  replace hB := below_wrote hB hB.size W_w130 g_q6.le
                  clear W_w130
                  refine t_node1 (i := 4) (by kernel_rfl) ?_
                  refine w_val rfl rfl rfl ?_
                  refine g_assign rfl rfl ?_
                  intro a35 p35
                  have s4 : a35.eval (.tmp 4) = .bool true := p35.at hs (by decide)
                  replace hs := p35.st hs
                  refine t_leaf (by kernel_rfl) ?_
                  replace s2 : a35.eval (.tmp 2) = .pointer (some ⟨q4, 0, none⟩) := ((p35.ne rfl).trans ((p34.ne rfl).trans (p33.ne rfl))).trans s2
                  replace s3 : a35.eval (.tmp 3) = .pointer (some ⟨q6, 0, none⟩) := ((p35.ne rfl).trans ((p34.ne rfl).trans (p33.ne rfl))).trans s3
                  refine hK125 _ _ ?_
                  clear hK125
                  refine wp_ret ?_
                  try dsimp only [Exit.then, Exit.inBlock]
                  refine ret3 hs Try.results26 (res_cell s2 h_q4 Try.isAgg28 Try.sizeOf28 rfl) (res_cell s3 h_q6 Try.isAgg40 Try.sizeOf40 rfl) (res_tmp s4) ?_
                  rw [firstOf_nil (by omega)] at tf1
                  rw [htf, tf1, tf2, tf3, tf4]
                  exact ⟨_, _, _, rfl, hne, o_e, hB⟩
              · refine w_val rfl rfl rfl ?_
                refine g_loadB rfl s5 Try.isAgg40 Try.sizeOf40 rfl h_q23 ?_
                intro a33 p33
                have s73 : a33.eval (.tmp 73) = .agg #[.int .i64 ch, .int .i64 ct, .int .i64 255, .string ⟨(rest.take 24).toArray⟩] := p33.at hs (by decide)
                replace hs := p33.st hs
                refine t_node1 (i := 0) (by kernel_rfl) ?_
                refine w_val rfl rfl rfl ?_
                refine g_loadB rfl ((p33.ne rfl).trans s6) Try.isAgg28 Try.sizeOf28 rfl h_q102 ?_
                intro a34 p34
                have s72 : a34.eval (.tmp 72) = .agg #[.int .i64 ch, .int .i64 ((ct + 1) % 256), .string ⟨(rest.drop 24).toArray⟩, .slice E ne ce] := p34.at hs (by decide)
                replace hs := p34.st hs
                refine t_node1 (i := 2) (by kernel_rfl) ?_
                refine w_eff rfl rfl rfl ?_
                refine g_storeB rfl (((p34.ne rfl).trans (p33.ne rfl)).trans s2) s72 Try.sizeOf28 rfl rfl h_q4 rfl ?_
                intro w131 W_w131
                replace h_q2 := keep_wrote h_q2 W_w131 n_q4_q2
                replace h_q4 := W_w131.here
                replace h_q6 := keep_wrote h_q6 W_w131 n_q4_q6
                replace h_q23 := keep_wrote h_q23 W_w131 n_q4_q23
                replace h_q102 := keep_wrote h_q102 W_w131 n_q4_q102
                replace o_e := own_wrote o_e W_w131 d_e_q4
                replace hB := below_wrote hB hB.size W_w131 g_q4.le
                clear W_w131
                refine t_node1 (i := 3) (by kernel_rfl) ?_
                refine w_eff rfl rfl rfl ?_
                refine g_storeB rfl (((p34.ne rfl).trans (p33.ne rfl)).trans s3) ((p34.ne rfl).trans s73) Try.sizeOf40 rfl rfl h_q6 rfl ?_
                intro w132 W_w132
                replace h_q2 := keep_wrote h_q2 W_w132 n_q6_q2
                replace h_q4 := keep_wrote h_q4 W_w132 n_q6_q4
                replace h_q6 := W_w132.here
                replace h_q23 := keep_wrote h_q23 W_w132 n_q6_q23
                replace h_q102 := keep_wrote h_q102 W_w132 n_q6_q102
                replace o_e := own_wrote o_e W_w132 d_e_q6
                replace hB := below_wrote hB hB.size W_w132 g_q6.le
                clear W_w132
                refine t_node1 (i := 4) (by kernel_rfl) ?_
                refine w_val rfl rfl rfl ?_
                refine g_assign rfl rfl ?_
                intro a35 p35
                have s4 : a35.eval (.tmp 4) = .bool true := p35.at hs (by decide)
                replace hs := p35.st hs
                refine t_leaf (by kernel_rfl) ?_
                replace s2 : a35.eval (.tmp 2) = .pointer (some ⟨q4, 0, none⟩) := ((p35.ne rfl).trans ((p34.ne rfl).trans (p33.ne rfl))).trans s2
                replace s3 : a35.eval (.tmp 3) = .pointer (some ⟨q6, 0, none⟩) := ((p35.ne rfl).trans ((p34.ne rfl).trans (p33.ne rfl))).trans s3
                refine hK125 _ _ ?_
                clear hK125
                refine wp_ret ?_
                try dsimp only [Exit.then, Exit.inBlock]
                refine ret3 hs Try.results26 (res_cell s2 h_q4 Try.isAgg28 Try.sizeOf28 rfl) (res_cell s3 h_q6 Try.isAgg40 Try.sizeOf40 rfl) (res_tmp s4) ?_
                rw [firstOf_nil (by omega)] at tf1
                rw [htf, tf1, tf2, tf3, tf4]
                exact ⟨_, _, _, rfl, hne, o_e, hB⟩
set_option maxRecDepth 100000 in
set_option maxHeartbeats 4000000 in
theorem takeFrames_any (ch ct : Int) (rest : List UInt8) (B : Option Addr) (m dp : Nat) (ds : List Int) (w : World) (hx : rest.length ≤ 1048576) (hm : ds.length = m) (hbm : m ≤ 1048576) (hnn_d : B = none → m = 0 ∧ dp = 0) (hr_d : Rd w 1 B m (ds.flatMap cI)) :
    Calls Try.prog 10 #[.agg #[.int .i64 ch, .int .i64 ct, .string ⟨rest.toArray⟩, .slice B m dp]] w fun e w' => ∃ (A : Option Addr) (c : Nat) (G : Option Addr) (g : Nat), e = .returned (.tuple #[.agg #[.int .i64 ch, .int .i64 (takeFs ch ⟨ct, rest, ds⟩).1.ct, .string ⟨((takeFs ch ⟨ct, rest, ds⟩).1.rest).toArray⟩, .slice A (takeFs ch ⟨ct, rest, ds⟩).1.ds.length c], .slice G (takeFs ch ⟨ct, rest, ds⟩).2.length g]) ∧ w'.ownsRow w.heap.size 3 1 (.slice A (takeFs ch ⟨ct, rest, ds⟩).1.ds.length c) (takeFs ch ⟨ct, rest, ds⟩).1.ds.length ((takeFs ch ⟨ct, rest, ds⟩).1.ds.flatMap cI) ∧ w'.ownsRow w.heap.size 40 4 (.slice G (takeFs ch ⟨ct, rest, ds⟩).2.length g) (takeFs ch ⟨ct, rest, ds⟩).2.length ((takeFs ch ⟨ct, rest, ds⟩).2.flatMap cFrame) ∧ Below w.heap.size w w' := by
  subst hm
  refine enter 27 Try.func10 rfl rfl (Nat.le_of_ble_eq_true rfl) ?_
  intro a0 hs hargs
  have s0 : a0.eval (.tmp 0) = .agg #[.int .i64 ch, .int .i64 ct, .string ⟨(rest).toArray⟩, .slice B ds.length dp] := hargs 0 _ rfl
  clear hargs
  have hB : Below w.heap.size w w := Below.refl _ _
  refine wp_seq_k fun K1 hK1 => ?_
  refine wp_region_lit ?_
  refine q_val rfl rfl ?_
  refine g_box rfl s0 rfl ?_
  intro q2 w3 N_q2
  have g_q2 : GeB w.heap.size q2 := ⟨Nat.le_trans hB.size N_q2.lo⟩
  replace hB := below_new hB hB.size N_q2
  have h_q2 := N_q2.here
  clear N_q2
  intro a1 p1
  have s1 : a1.eval (.tmp 1) = .pointer (some ⟨q2, 0, none⟩) := p1.at hs (by decide)
  replace hs := p1.st hs
  refine q_val rfl rfl ?_
  refine g_alloc rfl Try.zeroValue28 rfl ?_
  intro q4 w5 N_q4
  have n_q2_q4 := N_q4.ne ⟨lt_of_block h_q2⟩
  have n_q4_q2 := n_q2_q4.symm
  have g_q4 : GeB w.heap.size q4 := ⟨Nat.le_trans hB.size N_q4.lo⟩
  replace h_q2 := keep_below h_q2 N_q4.below
  replace hB := below_new hB hB.size N_q4
  have h_q4 := N_q4.here
  clear N_q4
  intro a2 p2
  have s2 : a2.eval (.tmp 2) = .pointer (some ⟨q4, 0, none⟩) := p2.at hs (by decide)
  replace hs := p2.st hs
  refine q_val rfl rfl ?_
  refine g_assign rfl rfl ?_
  intro a3 p3
  have s3 : a3.eval (.tmp 3) = .slice none 0 0 := p3.at hs (by decide)
  replace hs := p3.st hs
  refine wpList_nil ?_
  replace s1 : a3.eval (.tmp 1) = .pointer (some ⟨q2, 0, none⟩) := ((p3.ne rfl).trans (p2.ne rfl)).trans s1
  replace s2 : a3.eval (.tmp 2) = .pointer (some ⟨q4, 0, none⟩) := (p3.ne rfl).trans s2
  refine hK1 _ _ ?_
  clear hK1
  refine wp_seq_k fun K6 hK6 => ?_
  refine wp_region_lit ?_
  refine q_val rfl rfl ?_
  refine g_assign rfl rfl ?_
  intro a4 p4
  have s4 : a4.eval (.tmp 4) = .slice none 0 0 := p4.at hs (by decide)
  replace hs := p4.st hs
  refine wpList_nil ?_
  replace s1 : a4.eval (.tmp 1) = .pointer (some ⟨q2, 0, none⟩) := (p4.ne rfl).trans s1
  replace s2 : a4.eval (.tmp 2) = .pointer (some ⟨q4, 0, none⟩) := (p4.ne rfl).trans s2
  replace s3 : a4.eval (.tmp 3) = .slice none 0 0 := (p4.ne rfl).trans s3
  refine hK6 _ _ ?_
  clear hK6
  refine wp_seq_k fun K7 hK7 => ?_
  refine wp_region_lit ?_
  refine q_val rfl rfl ?_
  refine g_loadB rfl s1 Try.isAgg28 Try.sizeOf28 rfl h_q2 ?_
  intro a5 p5
  have s9 : a5.eval (.tmp 9) = .agg #[.int .i64 ch, .int .i64 ct, .string ⟨(rest).toArray⟩, .slice B ds.length dp] := p5.at hs (by decide)
  replace hs := p5.st hs
  refine q_val rfl rfl ?_
  refine g_call rfl rfl Try.call26 (arr1 s9) ?_
  refine (takeFrame_any _ _ _ _ _ _ ds _ (by omega) rfl (by omega) hnn_d (hr_d.below hB)).mono ?_
  rintro e w9 ⟨A8, _, c8, rfl, rfl, o_x8, hb8⟩
  refine ⟨_, rfl, ?_⟩
  have d_x8_q2 := own_ne_box o_x8 (lt_of_block h_q2)
  have d_x8_q4 := own_ne_box o_x8 (lt_of_block h_q4)
  have g_x8 : ∀ b, (A8 : Option Addr).map (·.block) = some b → w.heap.size ≤ b := fun b h => Nat.le_trans hB.size (own_row o_x8 b h).1
  replace o_x8 := own_base (base := w.heap.size) o_x8 hB.size
  replace h_q2 := keep_below h_q2 hb8
  replace h_q4 := keep_below h_q4 hb8
  replace hB := hB.trans (hb8.mono hB.size)
  clear hb8
  intro a6 p6
  have s10 : a6.eval (.tmp 10) = .tuple #[.agg #[.int .i64 ch, .int .i64 (tfC ch ct rest ds), .string ⟨(tfR ch ct rest ds).toArray⟩, .slice A8 ((tfD ch ct rest ds).length) c8], .agg #[.int .i64 ((tfF ch ct rest ds).f0), .int .i64 ((tfF ch ct rest ds).f1), .int .i64 ((tfF ch ct rest ds).f2), .string ⟨((tfF ch ct rest ds).f3).toArray⟩], .bool (tfOk ch ct rest ds)] := p6.at hs (by decide)
  replace hs := p6.st hs
  refine q_val rfl rfl ?_
  refine g_move rfl s10 ?_
  intro a7 p7
  have s8 : a7.eval (.tmp 8) = .tuple #[.agg #[.int .i64 ch, .int .i64 (tfC ch ct rest ds), .string ⟨(tfR ch ct rest ds).toArray⟩, .slice A8 ((tfD ch ct rest ds).length) c8], .agg #[.int .i64 ((tfF ch ct rest ds).f0), .int .i64 ((tfF ch ct rest ds).f1), .int .i64 ((tfF ch ct rest ds).f2), .string ⟨((tfF ch ct rest ds).f3).toArray⟩], .bool (tfOk ch ct rest ds)] := p7.at hs (by decide)
  replace hs := p7.st hs
  refine q_val rfl rfl ?_
  refine g_extract rfl s8 rfl ?_
  intro a8 p8
  have s11 : a8.eval (.tmp 11) = .agg #[.int .i64 ch, .int .i64 (tfC ch ct rest ds), .string ⟨(tfR ch ct rest ds).toArray⟩, .slice A8 ((tfD ch ct rest ds).length) c8] := p8.at hs (by decide)
  replace hs := p8.st hs
  refine q_val rfl rfl ?_
  refine g_extract rfl ((p8.ne rfl).trans s8) rfl ?_
  intro a9 p9
  have s12 : a9.eval (.tmp 12) = .agg #[.int .i64 ((tfF ch ct rest ds).f0), .int .i64 ((tfF ch ct rest ds).f1), .int .i64 ((tfF ch ct rest ds).f2), .string ⟨((tfF ch ct rest ds).f3).toArray⟩] := p9.at hs (by decide)
  replace hs := p9.st hs
  refine q_val rfl rfl ?_
  refine g_extract rfl (((p9.ne rfl).trans (p8.ne rfl)).trans s8) rfl ?_
  intro a10 p10
  have s13 : a10.eval (.tmp 13) = .bool (tfOk ch ct rest ds) := p10.at hs (by decide)
  replace hs := p10.st hs
  refine q_val rfl rfl ?_
  refine g_alloc rfl Try.zeroValue28 rfl ?_
  intro q10 w11 N_q10
  have n_q2_q10 := N_q10.ne ⟨lt_of_block h_q2⟩
  have n_q10_q2 := n_q2_q10.symm
  have n_q4_q10 := N_q10.ne ⟨lt_of_block h_q4⟩
  have n_q10_q4 := n_q4_q10.symm
  have d_x8_q10 := own_ne_new o_x8 N_q10
  have g_q10 : GeB w.heap.size q10 := ⟨Nat.le_trans hB.size N_q10.lo⟩
  replace h_q2 := keep_below h_q2 N_q10.below
  replace h_q4 := keep_below h_q4 N_q10.below
  replace o_x8 := own_below o_x8 N_q10.below
  replace hB := below_new hB hB.size N_q10
  have h_q10 := N_q10.here
  clear N_q10
  intro a11 p11
  have s5 : a11.eval (.tmp 5) = .pointer (some ⟨q10, 0, none⟩) := p11.at hs (by decide)
  replace hs := p11.st hs
  refine q_val rfl rfl ?_
  refine g_alloc rfl Try.zeroValue40 rfl ?_
  intro q12 w13 N_q12
  have n_q2_q12 := N_q12.ne ⟨lt_of_block h_q2⟩
  have n_q12_q2 := n_q2_q12.symm
  have n_q4_q12 := N_q12.ne ⟨lt_of_block h_q4⟩
  have n_q12_q4 := n_q4_q12.symm
  have n_q10_q12 := N_q12.ne ⟨lt_of_block h_q10⟩
  have n_q12_q10 := n_q10_q12.symm
  have d_x8_q12 := own_ne_new o_x8 N_q12
  have g_q12 : GeB w.heap.size q12 := ⟨Nat.le_trans hB.size N_q12.lo⟩
  replace h_q2 := keep_below h_q2 N_q12.below
  replace h_q4 := keep_below h_q4 N_q12.below
  replace h_q10 := keep_below h_q10 N_q12.below
  replace o_x8 := own_below o_x8 N_q12.below
  replace hB := below_new hB hB.size N_q12
  have h_q12 := N_q12.here
  clear N_q12
  intro a12 p12
  have s6 : a12.eval (.tmp 6) = .pointer (some ⟨q12, 0, none⟩) := p12.at hs (by decide)
  replace hs := p12.st hs
  refine q_eff rfl rfl ?_
  refine g_storeB rfl ((p12.ne rfl).trans s5) (((p12.ne rfl).trans ((p11.ne rfl).trans ((p10.ne rfl).trans (p9.ne rfl)))).trans s11) Try.sizeOf28 rfl rfl h_q10 rfl ?_
  intro w14 W_w14
  replace h_q2 := keep_wrote h_q2 W_w14 n_q10_q2
  replace h_q4 := keep_wrote h_q4 W_w14 n_q10_q4
  replace h_q10 := W_w14.here
  replace h_q12 := keep_wrote h_q12 W_w14 n_q10_q12
  replace o_x8 := own_wrote o_x8 W_w14 d_x8_q10
  replace hB := below_wrote hB hB.size W_w14 g_q10.le
  clear W_w14
  refine q_eff rfl rfl ?_
  refine g_storeB rfl s6 (((p12.ne rfl).trans ((p11.ne rfl).trans (p10.ne rfl))).trans s12) Try.sizeOf40 rfl rfl h_q12 rfl ?_
  intro w15 W_w15
  replace h_q2 := keep_wrote h_q2 W_w15 n_q12_q2
  replace h_q4 := keep_wrote h_q4 W_w15 n_q12_q4
  replace h_q10 := keep_wrote h_q10 W_w15 n_q12_q10
  replace h_q12 := W_w15.here
  replace o_x8 := own_wrote o_x8 W_w15 d_x8_q12
  replace hB := below_wrote hB hB.size W_w15 g_q12.le
  clear W_w15
  refine q_val rfl rfl ?_
  refine g_assign rfl (((p12.ne rfl).trans (p11.ne rfl)).trans s13) ?_
  intro a13 p13
  have s7 : a13.eval (.tmp 7) = .bool (tfOk ch ct rest ds) := p13.at hs (by decide)
  replace hs := p13.st hs
  refine wpList_nil ?_
  replace s2 : a13.eval (.tmp 2) = .pointer (some ⟨q4, 0, none⟩) := ((p13.ne rfl).trans ((p12.ne rfl).trans ((p11.ne rfl).trans ((p10.ne rfl).trans ((p9.ne rfl).trans ((p8.ne rfl).trans ((p7.ne rfl).trans ((p6.ne rfl).trans (p5.ne rfl))))))))).trans s2
  replace s3 : a13.eval (.tmp 3) = .slice none 0 0 := ((p13.ne rfl).trans ((p12.ne rfl).trans ((p11.ne rfl).trans ((p10.ne rfl).trans ((p9.ne rfl).trans ((p8.ne rfl).trans ((p7.ne rfl).trans ((p6.ne rfl).trans (p5.ne rfl))))))))).trans s3
  replace s4 : a13.eval (.tmp 4) = .slice none 0 0 := ((p13.ne rfl).trans ((p12.ne rfl).trans ((p11.ne rfl).trans ((p10.ne rfl).trans ((p9.ne rfl).trans ((p8.ne rfl).trans ((p7.ne rfl).trans ((p6.ne rfl).trans (p5.ne rfl))))))))).trans s4
  replace s5 : a13.eval (.tmp 5) = .pointer (some ⟨q10, 0, none⟩) := ((p13.ne rfl).trans (p12.ne rfl)).trans s5
  replace s6 : a13.eval (.tmp 6) = .pointer (some ⟨q12, 0, none⟩) := (p13.ne rfl).trans s6
  refine hK7 _ _ ?_
  clear hK7
  refine wp_seq_k fun K16 hK16 => ?_
  refine wp_block ?_
  have o_l : w15.ownsRow w.heap.size 40 4 (.slice none 0 0) 0 ([].flatMap cFrame) := World.ownsRow_nil _ _ _ _
  have g_l : ∀ b, (none : Option Addr).map (·.block) = some b → w.heap.size ≤ b := fun b h => by cases h
  have d_l_q2 : (none : Option Addr).map (·.block) ≠ some q2 := fun h => by cases h
  have d_l_q4 : (none : Option Addr).map (·.block) ≠ some q4 := fun h => by cases h
  have d_l_q10 : (none : Option Addr).map (·.block) ≠ some q10 := fun h => by cases h
  have d_l_q12 : (none : Option Addr).map (·.block) ≠ some q12 := fun h => by cases h
  have m_x8_l : ∀ b, (A8 : Option Addr).map (·.block) = some b → (none : Option Addr).map (·.block) ≠ some b := fun b _ h => by cases h
  have m_l_x8 := ne_row_symm m_x8_l
  have o_e := o_x8
  have g_e := g_x8
  have d_e_q2 := d_x8_q2
  have d_e_q4 := d_x8_q4
  have d_e_q10 := d_x8_q10
  have d_e_q12 := d_x8_q12
  have m_l_e := m_l_x8
  have m_e_l := m_x8_l
  refine wp_loop (fun a wr => ∃ (p : PkS) (f : EFrame) (ok : Bool) (fs : List EFrame) (nl : Nat) (E : Option Addr) (ce : Nat) (L : Option Addr) (cl : Nat), (St 27 a) ∧ (a.eval (.tmp 2) = .pointer (some ⟨q4, 0, none⟩)) ∧ (a.eval (.tmp 3) = .slice none 0 0) ∧ (a.eval (.tmp 4) = .slice L nl cl) ∧ (a.eval (.tmp 5) = .pointer (some ⟨q10, 0, none⟩)) ∧ (a.eval (.tmp 6) = .pointer (some ⟨q12, 0, none⟩)) ∧ (a.eval (.tmp 7) = .bool ok) ∧ (Below w.heap.size w wr) ∧ (wr.heap[q2]? = some (.cells #[.int .i64 ch, .int .i64 ct, .string ⟨(rest).toArray⟩, .slice B ds.length dp] 28 (0, 0))) ∧ (wr.heap[q4]? = some (.cells #[.int .i64 0, .int .i64 0, .string ⟨#[]⟩, .slice none 0 0] 28 (0, 0))) ∧ (wr.heap[q10]? = some (.cells #[.int .i64 ch, .int .i64 p.ct, .string ⟨(p.rest).toArray⟩, .slice E p.ds.length ce] 28 (0, 0))) ∧ (wr.heap[q12]? = some (.cells #[.int .i64 f.f0, .int .i64 f.f1, .int .i64 f.f2, .string ⟨(f.f3).toArray⟩] 40 (0, 0))) ∧ (wr.ownsRow w.heap.size 3 1 (.slice E p.ds.length ce) p.ds.length (p.ds.flatMap cI)) ∧ (wr.ownsRow w.heap.size 40 4 (.slice L nl cl) nl (fs.flatMap cFrame)) ∧ ((E : Option Addr).map (·.block) ≠ some q2) ∧ ((E : Option Addr).map (·.block) ≠ some q4) ∧ ((E : Option Addr).map (·.block) ≠ some q10) ∧ ((E : Option Addr).map (·.block) ≠ some q12) ∧ (∀ b, (L : Option Addr).map (·.block) = some b → (E : Option Addr).map (·.block) ≠ some b) ∧ (∀ b, (E : Option Addr).map (·.block) = some b → w.heap.size ≤ b) ∧ ((L : Option Addr).map (·.block) ≠ some q2) ∧ ((L : Option Addr).map (·.block) ≠ some q4) ∧ ((L : Option Addr).map (·.block) ≠ some q10) ∧ ((L : Option Addr).map (·.block) ≠ some q12) ∧ (∀ b, (E : Option Addr).map (·.block) = some b → (L : Option Addr).map (·.block) ≠ some b) ∧ (∀ b, (L : Option Addr).map (·.block) = some b → w.heap.size ≤ b) ∧ (TfI ch ⟨ct, rest, ds⟩ p f ok fs) ∧ (fs.length = nl)) (fun a wr => lenSt wr q10 2 + boolN (a.eval (.tmp 7))) (⟨nextP ch ⟨ct, rest, ds⟩, tfF ch ct rest ds, tfOk ch ct rest ds, [], 0, A8, c8, none, 0, hs, s2, s3, s4, s5, s6, s7, hB, h_q2, h_q4, h_q10, h_q12, o_e, o_l, d_e_q2, d_e_q4, d_e_q10, d_e_q12, m_l_e, g_e, d_l_q2, d_l_q4, d_l_q10, d_l_q12, m_e_l, g_l, TfI.first ch _, rfl⟩) ?_
  intro a14 w18 hI
  obtain ⟨p, f, ok, fs, nl, E, ce, L, cl, hs, s2, s3, s4, s5, s6, s7, hB, h_q2, h_q4, h_q10, h_q12, o_e, o_l, d_e_q2, d_e_q4, d_e_q10, d_e_q12, m_l_e, g_e, d_l_q2, d_l_q4, d_l_q10, d_l_q12, m_e_l, g_l, hI, hnl⟩ := hI
  have mu19 := h_q10
  have mu19b := s7
  have hbd := hI.bd
  have hdl := hI.dl
  simp only at hbd hdl
  refine wp_seq_k fun K20 hK20 => ?_
  refine wp_seq_k fun K21 hK21 => ?_
  refine wp_region_lit ?_
  refine q_val rfl rfl ?_
  refine g_move rfl s7 ?_
  intro a15 p15
  have s14 : a15.eval (.tmp 14) = .bool ok := p15.at hs (by decide)
  replace hs := p15.st hs
  refine wpList_nil ?_
  replace s2 : a15.eval (.tmp 2) = .pointer (some ⟨q4, 0, none⟩) := (p15.ne rfl).trans s2
  replace s3 : a15.eval (.tmp 3) = .slice none 0 0 := (p15.ne rfl).trans s3
  replace s4 : a15.eval (.tmp 4) = .slice L nl cl := (p15.ne rfl).trans s4
  replace s5 : a15.eval (.tmp 5) = .pointer (some ⟨q10, 0, none⟩) := (p15.ne rfl).trans s5
  replace s6 : a15.eval (.tmp 6) = .pointer (some ⟨q12, 0, none⟩) := (p15.ne rfl).trans s6
  replace s7 : a15.eval (.tmp 7) = .bool ok := (p15.ne rfl).trans s7
  refine hK21 _ _ ?_
  clear hK21
  cases hok : ok
  · replace s7 := s7.trans (congrArg Value.bool hok)
    replace s7 : a15.eval (.tmp 7) = .bool false := s7
    replace s14 := s14.trans (congrArg Value.bool hok)
    replace s14 : a15.eval (.tmp 14) = .bool false := s14
    refine c_false s14 ?_
    refine wp_exit ?_
    refine hK16 _ _ ?_
    clear hK16
    refine wp_seq_k fun K22 hK22 => ?_
    subst hok
    refine wp_region_lit ?_
    refine q_val rfl rfl ?_
    refine g_loadB rfl s5 Try.isAgg28 Try.sizeOf28 rfl h_q10 ?_
    intro a16 p16
    have s25 : a16.eval (.tmp 25) = .agg #[.int .i64 ch, .int .i64 p.ct, .string ⟨(p.rest).toArray⟩, .slice E p.ds.length ce] := p16.at hs (by decide)
    replace hs := p16.st hs
    refine q_val rfl rfl ?_
    refine g_move rfl ((p16.ne rfl).trans s4) ?_
    intro a17 p17
    have s26 : a17.eval (.tmp 26) = .slice L nl cl := p17.at hs (by decide)
    replace hs := p17.st hs
    refine q_eff rfl rfl ?_
    refine g_storeB rfl (((p17.ne rfl).trans (p16.ne rfl)).trans s2) ((p17.ne rfl).trans s25) Try.sizeOf28 rfl rfl h_q4 rfl ?_
    intro w23 W_w23
    replace h_q2 := keep_wrote h_q2 W_w23 n_q4_q2
    replace h_q4 := W_w23.here
    replace h_q10 := keep_wrote h_q10 W_w23 n_q4_q10
    replace h_q12 := keep_wrote h_q12 W_w23 n_q4_q12
    replace o_e := own_wrote o_e W_w23 d_e_q4
    replace o_l := own_wrote o_l W_w23 d_l_q4
    replace hB := below_wrote hB hB.size W_w23 g_q4.le
    clear W_w23
    refine q_val rfl rfl ?_
    refine g_assign rfl s26 ?_
    intro a18 p18
    have s3 : a18.eval (.tmp 3) = .slice L nl cl := p18.at hs (by decide)
    replace hs := p18.st hs
    refine wpList_nil ?_
    replace s2 : a18.eval (.tmp 2) = .pointer (some ⟨q4, 0, none⟩) := ((p18.ne rfl).trans ((p17.ne rfl).trans (p16.ne rfl))).trans s2
    refine hK22 _ _ ?_
    clear hK22
    refine wp_ret ?_
    try dsimp only [Exit.then, Exit.inBlock]
    refine ret2 hs Try.results10 (res_cell s2 h_q4 Try.isAgg28 Try.sizeOf28 rfl) (res_tmp s3) ?_
    subst hnl
    rw [hI.end]
    exact ⟨_, _, _, _, rfl, o_e, o_l, hB⟩
  · replace s7 := s7.trans (congrArg Value.bool hok)
    replace s7 : a15.eval (.tmp 7) = .bool true := s7
    replace s14 := s14.trans (congrArg Value.bool hok)
    replace s14 : a15.eval (.tmp 14) = .bool true := s14
    refine c_true s14 ?_
    refine wp_skip ?_
    refine hK20 _ _ ?_
    clear hK20
    refine wp_block ?_
    refine wp_seq_k fun K24 hK24 => ?_
    subst hok
    refine wp_region_lit ?_
    refine q_val rfl rfl ?_
    refine g_move rfl s4 ?_
    intro a16 p16
    have s15 : a16.eval (.tmp 15) = .slice L nl cl := p16.at hs (by decide)
    replace hs := p16.st hs
    refine q_val rfl rfl ?_
    refine g_loadB rfl ((p16.ne rfl).trans s6) Try.isAgg40 Try.sizeOf40 rfl h_q12 ?_
    intro a17 p17
    have s16 : a17.eval (.tmp 16) = .agg #[.int .i64 f.f0, .int .i64 f.f1, .int .i64 f.f2, .string ⟨(f.f3).toArray⟩] := p17.at hs (by decide)
    replace hs := p17.st hs
    refine q_val rfl rfl ?_
    refine g_bslice1 (cs := #[.int .i64 f.f0, .int .i64 f.f1, .int .i64 f.f2, .string ⟨(f.f3).toArray⟩]) rfl Try.underlying33 Try.sizeOf40 Try.zeroValue40 s16 (by kernel_rfl) rfl (by decide) ?_
    intro q25 w26 N_q25
    have n_q2_q25 := N_q25.ne ⟨lt_of_block h_q2⟩
    have n_q25_q2 := n_q2_q25.symm
    have n_q4_q25 := N_q25.ne ⟨lt_of_block h_q4⟩
    have n_q25_q4 := n_q4_q25.symm
    have n_q10_q25 := N_q25.ne ⟨lt_of_block h_q10⟩
    have n_q25_q10 := n_q10_q25.symm
    have n_q12_q25 := N_q25.ne ⟨lt_of_block h_q12⟩
    have n_q25_q12 := n_q12_q25.symm
    have d_e_q25 := own_ne_new o_e N_q25
    have d_l_q25 := own_ne_new o_l N_q25
    have g_q25 : GeB w.heap.size q25 := ⟨Nat.le_trans hB.size N_q25.lo⟩
    replace h_q2 := keep_below h_q2 N_q25.below
    replace h_q4 := keep_below h_q4 N_q25.below
    replace h_q10 := keep_below h_q10 N_q25.below
    replace h_q12 := keep_below h_q12 N_q25.below
    replace o_e := own_below o_e N_q25.below
    replace o_l := own_below o_l N_q25.below
    replace hB := below_new hB hB.size N_q25
    have h_q25 := N_q25.here
    clear N_q25
    intro a18 p18
    have s17 : a18.eval (.tmp 17) = .slice (some ⟨q25, 0, none⟩) 1 1 := p18.at hs (by decide)
    replace hs := p18.st hs
    refine q_val rfl rfl ?_
    refine g_append (n' := nl + 1) (ys := (fs ++ [f]).flatMap cFrame) w.heap.size (.agg #[.int .i64 0, .int .i64 0, .int .i64 0, .string ⟨#[]⟩]) 4 40 rfl (((p18.ne rfl).trans (p17.ne rfl)).trans s15) s17 Try.underlying33 infoFrame rfl (by decide) o_l (fun h => by cases h) (rd_box (xs := ([f]).flatMap cFrame) h_q25 rfl rfl) (flatFrame_one _) (by omega) hB.size (by decide) (by omega) (by first | rfl | simp [List.flatMap_append] | (simp [List.flatMap_append, cFrame]; done)) ?_
    intro A_r27 c_r27 w28 P_r27
    have d_r27_q2 := P_r27.ne d_l_q2 (lt_of_block h_q2)
    have d_r27_q4 := P_r27.ne d_l_q4 (lt_of_block h_q4)
    have d_r27_q10 := P_r27.ne d_l_q10 (lt_of_block h_q10)
    have d_r27_q12 := P_r27.ne d_l_q12 (lt_of_block h_q12)
    have d_r27_q25 := P_r27.ne d_l_q25 (lt_of_block h_q25)
    have m_e_r27 := P_r27.row m_e_l o_e
    have m_r27_e := ne_row_symm m_e_r27
    have g_r27 := P_r27.ge g_l hB.size
    replace h_q2 := keep_grown h_q2 P_r27.grown d_l_q2
    replace h_q4 := keep_grown h_q4 P_r27.grown d_l_q4
    replace h_q10 := keep_grown h_q10 P_r27.grown d_l_q10
    replace h_q12 := keep_grown h_q12 P_r27.grown d_l_q12
    replace h_q25 := keep_grown h_q25 P_r27.grown d_l_q25
    replace o_e := own_grown o_e P_r27.grown m_e_l
    replace hB := below_grown hB hB.size P_r27.grown g_l
    have o_r27 := P_r27.own
    clear P_r27
    intro a19 p19
    have s18 : a19.eval (.tmp 18) = .slice A_r27 (nl + 1) c_r27 := p19.at hs (by decide)
    replace hs := p19.st hs
    refine q_val rfl rfl ?_
    refine g_assign rfl s18 ?_
    intro a20 p20
    have s4 : a20.eval (.tmp 4) = .slice A_r27 (nl + 1) c_r27 := p20.at hs (by decide)
    replace hs := p20.st hs
    refine wpList_nil ?_
    replace s2 : a20.eval (.tmp 2) = .pointer (some ⟨q4, 0, none⟩) := ((p20.ne rfl).trans ((p19.ne rfl).trans ((p18.ne rfl).trans ((p17.ne rfl).trans (p16.ne rfl))))).trans s2
    replace s3 : a20.eval (.tmp 3) = .slice none 0 0 := ((p20.ne rfl).trans ((p19.ne rfl).trans ((p18.ne rfl).trans ((p17.ne rfl).trans (p16.ne rfl))))).trans s3
    replace s5 : a20.eval (.tmp 5) = .pointer (some ⟨q10, 0, none⟩) := ((p20.ne rfl).trans ((p19.ne rfl).trans ((p18.ne rfl).trans ((p17.ne rfl).trans (p16.ne rfl))))).trans s5
    replace s6 : a20.eval (.tmp 6) = .pointer (some ⟨q12, 0, none⟩) := ((p20.ne rfl).trans ((p19.ne rfl).trans ((p18.ne rfl).trans ((p17.ne rfl).trans (p16.ne rfl))))).trans s6
    replace s7 : a20.eval (.tmp 7) = .bool true := ((p20.ne rfl).trans ((p19.ne rfl).trans ((p18.ne rfl).trans ((p17.ne rfl).trans (p16.ne rfl))))).trans s7
    replace s14 : a20.eval (.tmp 14) = .bool true := ((p20.ne rfl).trans ((p19.ne rfl).trans ((p18.ne rfl).trans ((p17.ne rfl).trans (p16.ne rfl))))).trans s14
    refine hK24 _ _ ?_
    clear hK24
    refine wp_region_lit ?_
    refine q_val rfl rfl ?_
    refine g_loadB rfl s5 Try.isAgg28 Try.sizeOf28 rfl h_q10 ?_
    intro a21 p21
    have s20 : a21.eval (.tmp 20) = .agg #[.int .i64 ch, .int .i64 p.ct, .string ⟨(p.rest).toArray⟩, .slice E p.ds.length ce] := p21.at hs (by decide)
    replace hs := p21.st hs
    refine q_val rfl rfl ?_
    refine g_call rfl rfl Try.call26 (arr1 s20) ?_
    refine (takeFrame_any _ _ _ _ _ _ p.ds _ (by omega) rfl (by omega) (own_nil o_e) (Rd.of_own o_e)).mono ?_
    rintro e w30 ⟨A29, _, c29, rfl, rfl, o_x29, hb29⟩
    refine ⟨_, rfl, ?_⟩
    have d_x29_q2 := own_ne_box o_x29 (lt_of_block h_q2)
    have d_x29_q4 := own_ne_box o_x29 (lt_of_block h_q4)
    have d_x29_q10 := own_ne_box o_x29 (lt_of_block h_q10)
    have d_x29_q12 := own_ne_box o_x29 (lt_of_block h_q12)
    have d_x29_q25 := own_ne_box o_x29 (lt_of_block h_q25)
    have m_e_x29 := own_ne_row o_e o_x29 (Nat.le_refl _)
    have m_x29_e := ne_row_symm m_e_x29
    have m_r27_x29 := own_ne_row o_r27 o_x29 (Nat.le_refl _)
    have m_x29_r27 := ne_row_symm m_r27_x29
    have g_x29 : ∀ b, (A29 : Option Addr).map (·.block) = some b → w.heap.size ≤ b := fun b h => Nat.le_trans hB.size (own_row o_x29 b h).1
    replace o_x29 := own_base (base := w.heap.size) o_x29 hB.size
    replace h_q2 := keep_below h_q2 hb29
    replace h_q4 := keep_below h_q4 hb29
    replace h_q10 := keep_below h_q10 hb29
    replace h_q12 := keep_below h_q12 hb29
    replace h_q25 := keep_below h_q25 hb29
    replace o_e := own_below o_e hb29
    replace o_r27 := own_below o_r27 hb29
    replace hB := hB.trans (hb29.mono hB.size)
    clear hb29
    intro a22 p22
    have s21 : a22.eval (.tmp 21) = .tuple #[.agg #[.int .i64 ch, .int .i64 (tfC ch p.ct p.rest p.ds), .string ⟨(tfR ch p.ct p.rest p.ds).toArray⟩, .slice A29 ((tfD ch p.ct p.rest p.ds).length) c29], .agg #[.int .i64 ((tfF ch p.ct p.rest p.ds).f0), .int .i64 ((tfF ch p.ct p.rest p.ds).f1), .int .i64 ((tfF ch p.ct p.rest p.ds).f2), .string ⟨((tfF ch p.ct p.rest p.ds).f3).toArray⟩], .bool (tfOk ch p.ct p.rest p.ds)] := p22.at hs (by decide)
    replace hs := p22.st hs
    refine q_val rfl rfl ?_
    refine g_move rfl s21 ?_
    intro a23 p23
    have s19 : a23.eval (.tmp 19) = .tuple #[.agg #[.int .i64 ch, .int .i64 (tfC ch p.ct p.rest p.ds), .string ⟨(tfR ch p.ct p.rest p.ds).toArray⟩, .slice A29 ((tfD ch p.ct p.rest p.ds).length) c29], .agg #[.int .i64 ((tfF ch p.ct p.rest p.ds).f0), .int .i64 ((tfF ch p.ct p.rest p.ds).f1), .int .i64 ((tfF ch p.ct p.rest p.ds).f2), .string ⟨((tfF ch p.ct p.rest p.ds).f3).toArray⟩], .bool (tfOk ch p.ct p.rest p.ds)] := p23.at hs (by decide)
    replace hs := p23.st hs
    refine q_val rfl rfl ?_
    refine g_extract rfl s19 rfl ?_
    intro a24 p24
    have s22 : a24.eval (.tmp 22) = .agg #[.int .i64 ch, .int .i64 (tfC ch p.ct p.rest p.ds), .string ⟨(tfR ch p.ct p.rest p.ds).toArray⟩, .slice A29 ((tfD ch p.ct p.rest p.ds).length) c29] := p24.at hs (by decide)
    replace hs := p24.st hs
    refine q_val rfl rfl ?_
    refine g_extract rfl ((p24.ne rfl).trans s19) rfl ?_
    intro a25 p25
    have s23 : a25.eval (.tmp 23) = .agg #[.int .i64 ((tfF ch p.ct p.rest p.ds).f0), .int .i64 ((tfF ch p.ct p.rest p.ds).f1), .int .i64 ((tfF ch p.ct p.rest p.ds).f2), .string ⟨((tfF ch p.ct p.rest p.ds).f3).toArray⟩] := p25.at hs (by decide)
    replace hs := p25.st hs
    refine q_val rfl rfl ?_
    refine g_extract rfl (((p25.ne rfl).trans (p24.ne rfl)).trans s19) rfl ?_
    intro a26 p26
    have s24 : a26.eval (.tmp 24) = .bool (tfOk ch p.ct p.rest p.ds) := p26.at hs (by decide)
    replace hs := p26.st hs
    refine q_eff rfl rfl ?_
    refine g_storeB rfl (((p26.ne rfl).trans ((p25.ne rfl).trans ((p24.ne rfl).trans ((p23.ne rfl).trans ((p22.ne rfl).trans (p21.ne rfl)))))).trans s5) (((p26.ne rfl).trans (p25.ne rfl)).trans s22) Try.sizeOf28 rfl rfl h_q10 rfl ?_
    intro w31 W_w31
    replace h_q2 := keep_wrote h_q2 W_w31 n_q10_q2
    replace h_q4 := keep_wrote h_q4 W_w31 n_q10_q4
    replace h_q10 := W_w31.here
    replace h_q12 := keep_wrote h_q12 W_w31 n_q10_q12
    replace h_q25 := keep_wrote h_q25 W_w31 n_q10_q25
    replace o_e := own_wrote o_e W_w31 d_e_q10
    replace o_r27 := own_wrote o_r27 W_w31 d_r27_q10
    replace o_x29 := own_wrote o_x29 W_w31 d_x29_q10
    replace hB := below_wrote hB hB.size W_w31 g_q10.le
    clear W_w31
    refine q_eff rfl rfl ?_
    refine g_storeB rfl (((p26.ne rfl).trans ((p25.ne rfl).trans ((p24.ne rfl).trans ((p23.ne rfl).trans ((p22.ne rfl).trans (p21.ne rfl)))))).trans s6) ((p26.ne rfl).trans s23) Try.sizeOf40 rfl rfl h_q12 rfl ?_
    intro w32 W_w32
    replace h_q2 := keep_wrote h_q2 W_w32 n_q12_q2
    replace h_q4 := keep_wrote h_q4 W_w32 n_q12_q4
    replace h_q10 := keep_wrote h_q10 W_w32 n_q12_q10
    replace h_q12 := W_w32.here
    replace h_q25 := keep_wrote h_q25 W_w32 n_q12_q25
    replace o_e := own_wrote o_e W_w32 d_e_q12
    replace o_r27 := own_wrote o_r27 W_w32 d_r27_q12
    replace o_x29 := own_wrote o_x29 W_w32 d_x29_q12
    replace hB := below_wrote hB hB.size W_w32 g_q12.le
    clear W_w32
    refine q_val rfl rfl ?_
    refine g_assign rfl s24 ?_
    intro a27 p27
    have s7 : a27.eval (.tmp 7) = .bool (tfOk ch p.ct p.rest p.ds) := p27.at hs (by decide)
    replace hs := p27.st hs
    refine wpList_nil ?_
    replace s2 : a27.eval (.tmp 2) = .pointer (some ⟨q4, 0, none⟩) := ((p27.ne rfl).trans ((p26.ne rfl).trans ((p25.ne rfl).trans ((p24.ne rfl).trans ((p23.ne rfl).trans ((p22.ne rfl).trans (p21.ne rfl))))))).trans s2
    replace s3 : a27.eval (.tmp 3) = .slice none 0 0 := ((p27.ne rfl).trans ((p26.ne rfl).trans ((p25.ne rfl).trans ((p24.ne rfl).trans ((p23.ne rfl).trans ((p22.ne rfl).trans (p21.ne rfl))))))).trans s3
    replace s4 : a27.eval (.tmp 4) = .slice A_r27 (nl + 1) c_r27 := ((p27.ne rfl).trans ((p26.ne rfl).trans ((p25.ne rfl).trans ((p24.ne rfl).trans ((p23.ne rfl).trans ((p22.ne rfl).trans (p21.ne rfl))))))).trans s4
    replace s5 : a27.eval (.tmp 5) = .pointer (some ⟨q10, 0, none⟩) := ((p27.ne rfl).trans ((p26.ne rfl).trans ((p25.ne rfl).trans ((p24.ne rfl).trans ((p23.ne rfl).trans ((p22.ne rfl).trans (p21.ne rfl))))))).trans s5
    replace s6 : a27.eval (.tmp 6) = .pointer (some ⟨q12, 0, none⟩) := ((p27.ne rfl).trans ((p26.ne rfl).trans ((p25.ne rfl).trans ((p24.ne rfl).trans ((p23.ne rfl).trans ((p22.ne rfl).trans (p21.ne rfl))))))).trans s6
    replace s14 : a27.eval (.tmp 14) = .bool true := ((p27.ne rfl).trans ((p26.ne rfl).trans ((p25.ne rfl).trans ((p24.ne rfl).trans ((p23.ne rfl).trans ((p22.ne rfl).trans (p21.ne rfl))))))).trans s14
    have o_e := o_x29
    have g_e := g_x29
    have d_e_q2 := d_x29_q2
    have d_e_q4 := d_x29_q4
    have d_e_q10 := d_x29_q10
    have d_e_q12 := d_x29_q12
    have m_l_e := m_r27_x29
    have m_e_l := m_x29_r27
    have o_l := o_r27
    have g_l := g_r27
    have d_l_q2 := d_r27_q2
    have d_l_q4 := d_r27_q4
    have d_l_q10 := d_r27_q10
    have d_l_q12 := d_r27_q12
    have m_e_l := m_x29_r27
    have m_l_e := m_r27_x29
    refine show _ ∧ _ from ⟨⟨nextP ch p, tfF ch p.ct p.rest p.ds, tfOk ch p.ct p.rest p.ds, fs ++ [f], _, _, _, _, _, hs, s2, s3, s4, s5, s6, s7, hB, h_q2, h_q4, h_q10, h_q12, o_e, o_l, d_e_q2, d_e_q4, d_e_q10, d_e_q12, m_l_e, g_e, d_l_q2, d_l_q4, d_l_q10, d_l_q12, m_e_l, g_l, hI.next, (by rw [List.length_append, hnl]; rfl)⟩, ?_⟩
    show lenSt w32 q10 2 + boolN (a27.eval (.tmp 7)) < lenSt w18 q10 2 + boolN (a14.eval (.tmp 7))
    rw [lenSt_of h_q10 rfl, s7, lenSt_of mu19 rfl, mu19b]
    exact tfs_mu
end Go.Proofs.Ytmcgmiapbdoocaa
