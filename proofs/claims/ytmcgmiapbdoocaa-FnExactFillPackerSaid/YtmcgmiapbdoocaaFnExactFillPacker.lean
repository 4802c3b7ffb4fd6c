/- For every packer the program's FillPacker returns what the reference's returns, leaves its argument as it was and shares no memory. No condition. -/
import Derived.Test.YtmcgmiapbdoocaaFill
import Derived.Test.YtmcgmiapbdoocaaPkrTo
import Derived.Test.YtmcgmiapbdoocaaPkrMark
import Derived.Test.YtmcgmiapbdoocaaPkrArg
namespace Go.Proofs.Ytmcgmiapbdoocaa
open Go.RowKit

theorem fillR_len (ch ct : Int) (rest : List UInt8) (ds : List Int) : (fillR ch ct rest ds).2.length ≤ ds.length + 1 := by
  unfold fillR packR
  split
  · split <;> simp
  · simp
set_option maxRecDepth 100000 in
set_option maxHeartbeats 8000000 in
theorem fnExactFillPacker_walk {w : World} (a b : Int) (rest : List UInt8) (B : Option Addr) (n dp : Nat) (ds : List Int) (hx : Txt rest) (hn : ds.length = n) (hr_d : Rd w 1 B n (ds.flatMap cI)) (hbm : n ≤ maxLen) :
    Calls Try.prog 4 #[.agg #[.int .i64 a, .int .i64 b, .string ⟨rest.toArray⟩, .slice B n dp]] w fun e w' => e = .returned (.bool true) ∧ Below w.heap.size w w' := by
  subst hn
  have hfl := fillR_len a b rest ds
  refine enter 69 Try.func4 rfl rfl (Nat.le_of_ble_eq_true rfl) ?_
  intro a0 hs hargs
  have s0 : a0.eval (.tmp 0) = .agg #[.int .i64 a, .int .i64 b, .string ⟨(rest).toArray⟩, .slice B ds.length dp] := hargs 0 _ rfl
  clear hargs
  have hB : Below w.heap.size w w := Below.refl _ _
  refine wp_seq_k fun K1 hK1 => ?_
  refine wp_region_lit ?_
  refine q_val rfl rfl ?_
  refine g_box rfl s0 rfl ?_
  intro q2 w3 N_q2
  have g_q2 : GeB w.heap.size q2 := ⟨Nat.le_trans hB.size N_q2.lo⟩
  replace hB := below_new hB hB.size N_q2
  have h_q2 := N_q2.here
  clear N_q2
  intro a1 p1
  have s1 : a1.eval (.tmp 1) = .pointer (some ⟨q2, 0, none⟩) := p1.at hs (by decide)
  replace hs := p1.st hs
  refine q_val rfl rfl ?_
  refine g_assign rfl rfl ?_
  intro a2 p2
  have s2 : a2.eval (.tmp 2) = .bool false := p2.at hs (by decide)
  replace hs := p2.st hs
  refine wpList_nil ?_
  replace s1 : a2.eval (.tmp 1) = .pointer (some ⟨q2, 0, none⟩) := (p2.ne rfl).trans s1
  refine hK1 _ _ ?_
  clear hK1
  refine wp_seq_k fun K4 hK4 => ?_
  refine wp_region_lit ?_
  refine q_val rfl rfl ?_
  refine g_assign rfl rfl ?_
  intro a3 p3
  have s3 : a3.eval (.tmp 3) = .int .i64 1048576 := p3.at hs (by decide)
  replace hs := p3.st hs
  refine wpList_nil ?_
  replace s1 : a3.eval (.tmp 1) = .pointer (some ⟨q2, 0, none⟩) := (p3.ne rfl).trans s1
  replace s2 : a3.eval (.tmp 2) = .bool false := (p3.ne rfl).trans s2
  refine hK4 _ _ ?_
  clear hK4
  refine wp_seq_k fun K5 hK5 => ?_
  refine wp_region_lit ?_
  refine q_val rfl rfl ?_
  refine g_loadB rfl s1 Try.isAgg48 Try.sizeOf48 rfl h_q2 ?_
  intro a4 p4
  have s11 : a4.eval (.tmp 11) = .agg #[.int .i64 a, .int .i64 b, .string ⟨(rest).toArray⟩, .slice B ds.length dp] := p4.at hs (by decide)
  replace hs := p4.st hs
  refine q_val rfl rfl ?_
  refine g_move rfl ((p4.ne rfl).trans s3) ?_
  intro a5 p5
  have s12 : a5.eval (.tmp 12) = .int .i64 1048576 := p5.at hs (by decide)
  replace hs := p5.st hs
  refine q_val rfl rfl ?_
  refine g_call rfl rfl Try.call17 (arr2 ((p5.ne rfl).trans s11) s12) ?_
  refine (szPacker_any _ _ _ _ _ _ ds _ _ rfl hx hbm (by omega) (by omega)).mono ?_
  rintro e w7 ⟨q, rfl, hq0, hq1, hq2, hb6⟩
  refine ⟨_, rfl, ?_⟩
  replace h_q2 := keep_below h_q2 hb6
  replace hB := hB.trans (hb6.mono hB.size)
  clear hb6
  intro a6 p6
  have s13 : a6.eval (.tmp 13) = .int .i64 q := p6.at hs (by decide)
  replace hs := p6.st hs
  refine q_val rfl rfl ?_
  refine g_assign rfl s13 ?_
  intro a7 p7
  have s3 : a7.eval (.tmp 3) = .int .i64 q := p7.at hs (by decide)
  replace hs := p7.st hs
  refine wpList_nil ?_
  replace s1 : a7.eval (.tmp 1) = .pointer (some ⟨q2, 0, none⟩) := ((p7.ne rfl).trans ((p6.ne rfl).trans ((p5.ne rfl).trans (p4.ne rfl)))).trans s1
  replace s2 : a7.eval (.tmp 2) = .bool false := ((p7.ne rfl).trans ((p6.ne rfl).trans ((p5.ne rfl).trans (p4.ne rfl)))).trans s2
  refine hK5 _ _ ?_
  clear hK5
  refine wp_seq_k fun K8 hK8 => ?_
  refine wp_seq_k fun K9 hK9 => ?_
  refine wp_region_lit ?_
  refine q_val rfl rfl ?_
  refine g_move rfl s3 ?_
  intro a8 p8
  have s14 : a8.eval (.tmp 14) = .int .i64 q := p8.at hs (by decide)
  replace hs := p8.st hs
  refine q_val rfl rfl ?_
  refine g_lss rfl s14 rfl ?_
  intro a9 p9
  have s15 : a9.eval (.tmp 15) = .bool (decide (q < 0)) := p9.at hs (by decide)
  replace hs := p9.st hs
  refine wpList_nil ?_
  replace s1 : a9.eval (.tmp 1) = .pointer (some ⟨q2, 0, none⟩) := ((p9.ne rfl).trans (p8.ne rfl)).trans s1
  replace s2 : a9.eval (.tmp 2) = .bool false := ((p9.ne rfl).trans (p8.ne rfl)).trans s2
  refine hK9 _ _ ?_
  clear hK9
  by_cases hc10 : q < 0
  · replace s15 := s15.trans (congrArg Value.bool (decide_eq_true hc10))
    replace s15 : a9.eval (.tmp 15) = .bool true := s15
    refine c_true s15 ?_
    refine wp_seq_k fun K11 hK11 => ?_
    refine wp_region_lit ?_
    refine q_val rfl rfl ?_
    refine g_assign rfl rfl ?_
    intro a10 p10
    have s2 : a10.eval (.tmp 2) = .bool true := p10.at hs (by decide)
    replace hs := p10.st hs
    refine wpList_nil ?_
    replace s1 : a10.eval (.tmp 1) = .pointer (some ⟨q2, 0, none⟩) := (p10.ne rfl).trans s1
    refine hK11 _ _ ?_
    clear hK11
    refine wp_ret ?_
    try dsimp only [Exit.then, Exit.inBlock]
    refine ret1 hs Try.results4 (res_tmp s2) ?_
    exact ⟨rfl, hB⟩
  · replace s15 := s15.trans (congrArg Value.bool (decide_eq_false hc10))
    replace s15 : a9.eval (.tmp 15) = .bool false := s15
    refine c_false s15 ?_
    refine wp_skip ?_
    refine hK8 _ _ ?_
    clear hK8
    refine wp_seq_k fun K12 hK12 => ?_
    obtain ⟨hxr, hm2⟩ : rest.length ≤ 1048576 ∧ ds.length ≤ 1048576 := hq2 (by omega)
    refine wp_region_lit ?_
    refine q_val rfl rfl ?_
    refine g_loadB rfl s1 Try.isAgg48 Try.sizeOf48 rfl h_q2 ?_
    intro a10 p10
    have s16 : a10.eval (.tmp 16) = .agg #[.int .i64 a, .int .i64 b, .string ⟨(rest).toArray⟩, .slice B ds.length dp] := p10.at hs (by decide)
    replace hs := p10.st hs
    refine q_val rfl rfl ?_
    refine g_call rfl rfl Try.call19 (arr1 s16) ?_
    refine (toPacker_any _ _ _ _ _ _ ds _ rfl hm2 (hr_d.below hB)).mono ?_
    rintro e w14 ⟨g13, rfl, o_x13, hb13⟩
    refine ⟨_, rfl, ?_⟩
    have d_x13_q2 := own_ne_box o_x13 (lt_of_block h_q2)
    have g_x13 : ∀ b, ((some ⟨g13, 0, none⟩) : Option Addr).map (·.block) = some b → w.heap.size ≤ b := fun b h => Nat.le_trans hB.size (own_row o_x13 b h).1
    replace o_x13 := own_base (base := w.heap.size) o_x13 hB.size
    replace h_q2 := keep_below h_q2 hb13
    replace hB := hB.trans (hb13.mono hB.size)
    clear hb13
    intro a11 p11
    have s17 : a11.eval (.tmp 17) = .agg #[.int .i64 a, .int .i64 b, .string ⟨(rest).toArray⟩, .slice (some ⟨g13, 0, none⟩) ds.length ds.length] := p11.at hs (by decide)
    replace hs := p11.st hs
    refine q_val rfl rfl ?_
    refine g_call rfl rfl Try.call18 (arr1 s17) ?_
    refine (sFillPacker_any _ _ _ _ _ _ ds _ hxr rfl hm2 (own_nil o_x13) (Rd.of_own o_x13)).mono ?_
    rintro e w16 ⟨_, rfl, ⟨A15, _, c15, rfl, rfl, o_x15⟩, hb15⟩
    refine ⟨_, rfl, ?_⟩
    have d_x15_q2 := own_ne_box o_x15 (lt_of_block h_q2)
    have m_x13_x15 := own_ne_row o_x13 o_x15 (Nat.le_refl _)
    have m_x15_x13 := ne_row_symm m_x13_x15
    have g_x15 : ∀ b, (A15 : Option Addr).map (·.block) = some b → w.heap.size ≤ b := fun b h => Nat.le_trans hB.size (own_row o_x15 b h).1
    replace o_x15 := own_base (base := w.heap.size) o_x15 hB.size
    replace h_q2 := keep_below h_q2 hb15
    replace o_x13 := own_below o_x13 hb15
    replace hB := hB.trans (hb15.mono hB.size)
    clear hb15
    intro a12 p12
    have s18 : a12.eval (.tmp 18) = .agg #[.int .i64 a, .int .i64 b, .string ⟨((fillR a b rest ds).1).toArray⟩, .slice A15 ((fillR a b rest ds).2.length) c15] := p12.at hs (by decide)
    replace hs := p12.st hs
    refine q_val rfl rfl ?_
    refine g_alloc rfl Try.zeroValue28 rfl ?_
    intro q17 w18 N_q17
    have n_q2_q17 := N_q17.ne ⟨lt_of_block h_q2⟩
    have n_q17_q2 := n_q2_q17.symm
    have d_x13_q17 := own_ne_new o_x13 N_q17
    have d_x15_q17 := own_ne_new o_x15 N_q17
    have g_q17 : GeB w.heap.size q17 := ⟨Nat.le_trans hB.size N_q17.lo⟩
    replace h_q2 := keep_below h_q2 N_q17.below
    replace o_x13 := own_below o_x13 N_q17.below
    replace o_x15 := own_below o_x15 N_q17.below
    replace hB := below_new hB hB.size N_q17
    have h_q17 := N_q17.here
    clear N_q17
    intro a13 p13
    have s4 : a13.eval (.tmp 4) = .pointer (some ⟨q17, 0, none⟩) := p13.at hs (by decide)
    replace hs := p13.st hs
    refine q_eff rfl rfl ?_
    refine g_storeB rfl s4 ((p13.ne rfl).trans s18) Try.sizeOf28 rfl rfl h_q17 rfl ?_
    intro w19 W_w19
    replace h_q2 := keep_wrote h_q2 W_w19 n_q17_q2
    replace h_q17 := W_w19.here
    replace o_x13 := own_wrote o_x13 W_w19 d_x13_q17
    replace o_x15 := own_wrote o_x15 W_w19 d_x15_q17
    replace hB := below_wrote hB hB.size W_w19 g_q17.le
    clear W_w19
    refine wpList_nil ?_
    replace s1 : a13.eval (.tmp 1) = .pointer (some ⟨q2, 0, none⟩) := ((p13.ne rfl).trans ((p12.ne rfl).trans ((p11.ne rfl).trans (p10.ne rfl)))).trans s1
    replace s2 : a13.eval (.tmp 2) = .bool false := ((p13.ne rfl).trans ((p12.ne rfl).trans ((p11.ne rfl).trans (p10.ne rfl)))).trans s2
    refine hK12 _ _ ?_
    clear hK12
    refine wp_seq_k fun K20 hK20 => ?_
    refine wp_region_lit ?_
    refine q_val rfl rfl ?_
    refine g_loadB rfl s1 Try.isAgg48 Try.sizeOf48 rfl h_q2 ?_
    intro a14 p14
    have s19 : a14.eval (.tmp 19) = .agg #[.int .i64 a, .int .i64 b, .string ⟨(rest).toArray⟩, .slice B ds.length dp] := p14.at hs (by decide)
    replace hs := p14.st hs
    refine q_val rfl rfl ?_
    refine g_call rfl rfl Try.call19 (arr1 s19) ?_
    refine (toPacker_any _ _ _ _ _ _ ds _ rfl hm2 (hr_d.below hB)).mono ?_
    rintro e w22 ⟨g21, rfl, o_x21, hb21⟩
    refine ⟨_, rfl, ?_⟩
    have d_x21_q2 := own_ne_box o_x21 (lt_of_block h_q2)
    have d_x21_q17 := own_ne_box o_x21 (lt_of_block h_q17)
    have m_x13_x21 := own_ne_row o_x13 o_x21 (Nat.le_refl _)
    have m_x21_x13 := ne_row_symm m_x13_x21
    have m_x15_x21 := own_ne_row o_x15 o_x21 (Nat.le_refl _)
    have m_x21_x15 := ne_row_symm m_x15_x21
    have g_x21 : ∀ b, ((some ⟨g21, 0, none⟩) : Option Addr).map (·.block) = some b → w.heap.size ≤ b := fun b h => Nat.le_trans hB.size (own_row o_x21 b h).1
    replace o_x21 := own_base (base := w.heap.size) o_x21 hB.size
    replace h_q2 := keep_below h_q2 hb21
    replace h_q17 := keep_below h_q17 hb21
    replace o_x13 := own_below o_x13 hb21
    replace o_x15 := own_below o_x15 hb21
    replace hB := hB.trans (hb21.mono hB.size)
    clear hb21
    intro a15 p15
    have s20 : a15.eval (.tmp 20) = .agg #[.int .i64 a, .int .i64 b, .string ⟨(rest).toArray⟩, .slice (some ⟨g21, 0, none⟩) ds.length ds.length] := p15.at hs (by decide)
    replace hs := p15.st hs
    refine q_val rfl rfl ?_
    refine g_alloc rfl Try.zeroValue28 rfl ?_
    intro q23 w24 N_q23
    have n_q2_q23 := N_q23.ne ⟨lt_of_block h_q2⟩
    have n_q23_q2 := n_q2_q23.symm
    have n_q17_q23 := N_q23.ne ⟨lt_of_block h_q17⟩
    have n_q23_q17 := n_q17_q23.symm
    have d_x13_q23 := own_ne_new o_x13 N_q23
    have d_x15_q23 := own_ne_new o_x15 N_q23
    have d_x21_q23 := own_ne_new o_x21 N_q23
    have g_q23 : GeB w.heap.size q23 := ⟨Nat.le_trans hB.size N_q23.lo⟩
    replace h_q2 := keep_below h_q2 N_q23.below
    replace h_q17 := keep_below h_q17 N_q23.below
    replace o_x13 := own_below o_x13 N_q23.below
    replace o_x15 := own_below o_x15 N_q23.below
    replace o_x21 := own_below o_x21 N_q23.below
    replace hB := below_new hB hB.size N_q23
    have h_q23 := N_q23.here
    clear N_q23
    intro a16 p16
    have s5 : a16.eval (.tmp 5) = .pointer (some ⟨q23, 0, none⟩) := p16.at hs (by decide)
    replace hs := p16.st hs
    refine q_eff rfl rfl ?_
    refine g_storeB rfl s5 ((p16.ne rfl).trans s20) Try.sizeOf28 rfl rfl h_q23 rfl ?_
    intro w25 W_w25
    replace h_q2 := keep_wrote h_q2 W_w25 n_q23_q2
    replace h_q17 := keep_wrote h_q17 W_w25 n_q23_q17
    replace h_q23 := W_w25.here
    replace o_x13 := own_wrote o_x13 W_w25 d_x13_q23
    replace o_x15 := own_wrote o_x15 W_w25 d_x15_q23
    replace o_x21 := own_wrote o_x21 W_w25 d_x21_q23
    replace hB := below_wrote hB hB.size W_w25 g_q23.le
    clear W_w25
    refine wpList_nil ?_
    replace s1 : a16.eval (.tmp 1) = .pointer (some ⟨q2, 0, none⟩) := ((p16.ne rfl).trans ((p15.ne rfl).trans (p14.ne rfl))).trans s1
    replace s2 : a16.eval (.tmp 2) = .bool false := ((p16.ne rfl).trans ((p15.ne rfl).trans (p14.ne rfl))).trans s2
    replace s4 : a16.eval (.tmp 4) = .pointer (some ⟨q17, 0, none⟩) := ((p16.ne rfl).trans ((p15.ne rfl).trans (p14.ne rfl))).trans s4
    refine hK20 _ _ ?_
    clear hK20
    refine wp_seq_k fun K26 hK26 => ?_
    refine wp_region_lit ?_
    refine q_val rfl rfl ?_
    refine g_loadB rfl s5 Try.isAgg28 Try.sizeOf28 rfl h_q23 ?_
    intro a17 p17
    have s21 : a17.eval (.tmp 21) = .agg #[.int .i64 a, .int .i64 b, .string ⟨(rest).toArray⟩, .slice (some ⟨g21, 0, none⟩) ds.length ds.length] := p17.at hs (by decide)
    replace hs := p17.st hs
    refine q_val rfl rfl ?_
    refine g_call rfl rfl Try.call11 (arr1 s21) ?_
    refine (fillPacker_any _ _ _ _ _ _ ds _ hxr rfl hm2 (own_nil o_x21) (Rd.of_own o_x21)).mono ?_
    rintro e w28 ⟨_, rfl, ⟨A27, _, c27, rfl, rfl, o_x27⟩, hb27⟩
    refine ⟨_, rfl, ?_⟩
    have d_x27_q2 := own_ne_box o_x27 (lt_of_block h_q2)
    have d_x27_q17 := own_ne_box o_x27 (lt_of_block h_q17)
    have d_x27_q23 := own_ne_box o_x27 (lt_of_block h_q23)
    have m_x13_x27 := own_ne_row o_x13 o_x27 (Nat.le_refl _)
    have m_x27_x13 := ne_row_symm m_x13_x27
    have m_x15_x27 := own_ne_row o_x15 o_x27 (Nat.le_refl _)
    have m_x27_x15 := ne_row_symm m_x15_x27
    have m_x21_x27 := own_ne_row o_x21 o_x27 (Nat.le_refl _)
    have m_x27_x21 := ne_row_symm m_x21_x27
    have g_x27 : ∀ b, (A27 : Option Addr).map (·.block) = some b → w.heap.size ≤ b := fun b h => Nat.le_trans hB.size (own_row o_x27 b h).1
    replace o_x27 := own_base (base := w.heap.size) o_x27 hB.size
    replace h_q2 := keep_below h_q2 hb27
    replace h_q17 := keep_below h_q17 hb27
    replace h_q23 := keep_below h_q23 hb27
    replace o_x13 := own_below o_x13 hb27
    replace o_x15 := own_below o_x15 hb27
    replace o_x21 := own_below o_x21 hb27
    replace hB := hB.trans (hb27.mono hB.size)
    clear hb27
    intro a18 p18
    have s22 : a18.eval (.tmp 22) = .agg #[.int .i64 a, .int .i64 b, .string ⟨((fillR a b rest ds).1).toArray⟩, .slice A27 ((fillR a b rest ds).2.length) c27] := p18.at hs (by decide)
    replace hs := p18.st hs
    refine q_val rfl rfl ?_
    refine g_alloc rfl Try.zeroValue28 rfl ?_
    intro q29 w30 N_q29
    have n_q2_q29 := N_q29.ne ⟨lt_of_block h_q2⟩
    have n_q29_q2 := n_q2_q29.symm
    have n_q17_q29 := N_q29.ne ⟨lt_of_block h_q17⟩
    have n_q29_q17 := n_q17_q29.symm
    have n_q23_q29 := N_q29.ne ⟨lt_of_block h_q23⟩
    have n_q29_q23 := n_q23_q29.symm
    have d_x13_q29 := own_ne_new o_x13 N_q29
    have d_x15_q29 := own_ne_new o_x15 N_q29
    have d_x21_q29 := own_ne_new o_x21 N_q29
    have d_x27_q29 := own_ne_new o_x27 N_q29
    have g_q29 : GeB w.heap.size q29 := ⟨Nat.le_trans hB.size N_q29.lo⟩
    replace h_q2 := keep_below h_q2 N_q29.below
    replace h_q17 := keep_below h_q17 N_q29.below
    replace h_q23 := keep_below h_q23 N_q29.below
    replace o_x13 := own_below o_x13 N_q29.below
    replace o_x15 := own_below o_x15 N_q29.below
    replace o_x21 := own_below o_x21 N_q29.below
    replace o_x27 := own_below o_x27 N_q29.below
    replace hB := below_new hB hB.size N_q29
    have h_q29 := N_q29.here
    clear N_q29
    intro a19 p19
    have s6 : a19.eval (.tmp 6) = .pointer (some ⟨q29, 0, none⟩) := p19.at hs (by decide)
    replace hs := p19.st hs
    refine q_eff rfl rfl ?_
    refine g_storeB rfl s6 ((p19.ne rfl).trans s22) Try.sizeOf28 rfl rfl h_q29 rfl ?_
    intro w31 W_w31
    replace h_q2 := keep_wrote h_q2 W_w31 n_q29_q2
    replace h_q17 := keep_wrote h_q17 W_w31 n_q29_q17
    replace h_q23 := keep_wrote h_q23 W_w31 n_q29_q23
    replace h_q29 := W_w31.here
    replace o_x13 := own_wrote o_x13 W_w31 d_x13_q29
    replace o_x15 := own_wrote o_x15 W_w31 d_x15_q29
    replace o_x21 := own_wrote o_x21 W_w31 d_x21_q29
    replace o_x27 := own_wrote o_x27 W_w31 d_x27_q29
    replace hB := below_wrote hB hB.size W_w31 g_q29.le
    clear W_w31
    refine wpList_nil ?_
    replace s1 : a19.eval (.tmp 1) = .pointer (some ⟨q2, 0, none⟩) := ((p19.ne rfl).trans ((p18.ne rfl).trans (p17.ne rfl))).trans s1
    replace s2 : a19.eval (.tmp 2) = .bool false := ((p19.ne rfl).trans ((p18.ne rfl).trans (p17.ne rfl))).trans s2
    replace s4 : a19.eval (.tmp 4) = .pointer (some ⟨q17, 0, none⟩) := ((p19.ne rfl).trans ((p18.ne rfl).trans (p17.ne rfl))).trans s4
    replace s5 : a19.eval (.tmp 5) = .pointer (some ⟨q23, 0, none⟩) := ((p19.ne rfl).trans ((p18.ne rfl).trans (p17.ne rfl))).trans s5
    refine hK26 _ _ ?_
    clear hK26
    refine wp_seq_k fun K32 hK32 => ?_
    refine wp_seq_k fun K33 hK33 => ?_
    refine wp_region_lit ?_
    refine q_val rfl rfl ?_
    refine g_loadB rfl s6 Try.isAgg28 Try.sizeOf28 rfl h_q29 ?_
    intro a20 p20
    have s23 : a20.eval (.tmp 23) = .agg #[.int .i64 a, .int .i64 b, .string ⟨((fillR a b rest ds).1).toArray⟩, .slice A27 ((fillR a b rest ds).2.length) c27] := p20.at hs (by decide)
    replace hs := p20.st hs
    refine q_val rfl rfl ?_
    refine g_loadB rfl ((p20.ne rfl).trans s4) Try.isAgg28 Try.sizeOf28 rfl h_q17 ?_
    intro a21 p21
    have s24 : a21.eval (.tmp 24) = .agg #[.int .i64 a, .int .i64 b, .string ⟨((fillR a b rest ds).1).toArray⟩, .slice A15 ((fillR a b rest ds).2.length) c15] := p21.at hs (by decide)
    replace hs := p21.st hs
    refine q_val rfl rfl ?_
    refine g_call rfl rfl Try.call20 (arr2 ((p21.ne rfl).trans s23) s24) ?_
    refine (eqPacker_same _ _ _ _ _ _ _ _ _ ((fillR a b rest ds).2) _ rfl rfl (by omega) (Rd.of_own o_x27) (Rd.of_own o_x15)).mono ?_
    rintro e w35 ⟨rfl, hb34⟩
    refine ⟨_, rfl, ?_⟩
    replace h_q2 := keep_below h_q2 hb34
    replace h_q17 := keep_below h_q17 hb34
    replace h_q23 := keep_below h_q23 hb34
    replace h_q29 := keep_below h_q29 hb34
    replace o_x13 := own_below o_x13 hb34
    replace o_x15 := own_below o_x15 hb34
    replace o_x21 := own_below o_x21 hb34
    replace o_x27 := own_below o_x27 hb34
    replace hB := hB.trans (hb34.mono hB.size)
    clear hb34
    intro a22 p22
    have s25 : a22.eval (.tmp 25) = .bool true := p22.at hs (by decide)
    replace hs := p22.st hs
    refine q_val rfl rfl ?_
    refine g_not rfl s25 ?_
    intro a23 p23
    have s26 : a23.eval (.tmp 26) = .bool false := p23.at hs (by decide)
    replace hs := p23.st hs
    refine wpList_nil ?_
    replace s1 : a23.eval (.tmp 1) = .pointer (some ⟨q2, 0, none⟩) := ((p23.ne rfl).trans ((p22.ne rfl).trans ((p21.ne rfl).trans (p20.ne rfl)))).trans s1
    replace s2 : a23.eval (.tmp 2) = .bool false := ((p23.ne rfl).trans ((p22.ne rfl).trans ((p21.ne rfl).trans (p20.ne rfl)))).trans s2
    replace s4 : a23.eval (.tmp 4) = .pointer (some ⟨q17, 0, none⟩) := ((p23.ne rfl).trans ((p22.ne rfl).trans ((p21.ne rfl).trans (p20.ne rfl)))).trans s4
    replace s5 : a23.eval (.tmp 5) = .pointer (some ⟨q23, 0, none⟩) := ((p23.ne rfl).trans ((p22.ne rfl).trans ((p21.ne rfl).trans (p20.ne rfl)))).trans s5
    replace s6 : a23.eval (.tmp 6) = .pointer (some ⟨q29, 0, none⟩) := ((p23.ne rfl).trans ((p22.ne rfl).trans ((p21.ne rfl).trans (p20.ne rfl)))).trans s6
    refine hK33 _ _ ?_
    clear hK33
    refine c_false s26 ?_
    refine wp_skip ?_
    refine hK32 _ _ ?_
    clear hK32
    refine wp_seq_k fun K36 hK36 => ?_
    refine wp_seq_k fun K37 hK37 => ?_
    refine wp_drawn (n := 69) [] [] [] (fun k_ v_ wx => match k_ with | 0 => v_ = .agg #[.int .i64 a, .int .i64 b, .string ⟨(rest).toArray⟩, .slice (some ⟨g21, 0, none⟩) ds.length ds.length] | 1 => v_ = .agg #[.int .i64 a, .int .i64 b, .string ⟨(rest).toArray⟩, .slice B ds.length dp] | 2 => ∃ (g38 : Nat), v_ = .agg #[.int .i64 a, .int .i64 b, .string ⟨(rest).toArray⟩, .slice (some ⟨g38, 0, none⟩) ds.length ds.length] ∧ ((wx).ownsRow w35.heap.size 3 1 (.slice (some ⟨g38, 0, none⟩) ds.length ds.length) ds.length (ds.flatMap cI)) | 3 => v_ = .bool true | 4 => v_ = .bool false | _ => True) (by kernel_rfl) (by kernel_rfl) (by kernel_rfl) (by kernel_rfl) hs.size ?_ ?_ ?_
    · intro i v wa wb hb hr
      rcases i with _ | _ | _ | _ | _ | i
      · exact hr
      · exact hr
      · obtain ⟨g38, hr, o_x38⟩ := hr; exact ⟨g38, hr, own_below o_x38 hb⟩
      · exact hr
      · exact hr
      · trivial
    · refine d_step rfl rfl ?_ (d_step rfl rfl ?_ (d_step rfl rfl ?_ (d_step rfl rfl ?_ (d_step rfl rfl ?_ (d_nil)))))
      · intro xv_ wx ρ hρ hwx hd K hK
        have e5 : ρ (.tmp 5) = .pointer (some ⟨q23, 0, none⟩) := (hρ.inn 5 rfl).trans s5
        have h_q23 := keep_below h_q23 hwx
        refine g_loadB rfl e5 Try.isAgg28 Try.sizeOf28 rfl h_q23 ?_
        exact hK _ _ (Below.refl _ _) rfl
      · intro xv_ wx ρ hρ hwx hd K hK
        have e1 : ρ (.tmp 1) = .pointer (some ⟨q2, 0, none⟩) := (hρ.inn 1 rfl).trans s1
        have h_q2 := keep_below h_q2 hwx
        refine g_loadB rfl e1 Try.isAgg48 Try.sizeOf48 rfl h_q2 ?_
        exact hK _ _ (Below.refl _ _) rfl
      · intro xv_ wx ρ hρ hwx hd K hK
        obtain r1 : xv_ 1 = .agg #[.int .i64 a, .int .i64 b, .string ⟨(rest).toArray⟩, .slice B ds.length dp] := hd 1 rfl
        have e28 : ρ (.tmp 28) = .agg #[.int .i64 a, .int .i64 b, .string ⟨(rest).toArray⟩, .slice B ds.length dp] := (hρ.out 1 28 rfl (by rw [hs.size]; decide) rfl).trans r1
        refine g_call rfl (hρ.fn _) Try.call19 (arr1 e28) ?_
        refine (toPacker_any _ _ _ _ _ _ ds _ rfl hm2 ((hr_d.below hB).below hwx)).mono ?_
        rintro e wy ⟨g38, rfl, o_x38, hb38⟩
        exact ⟨_, rfl, hK _ _ hb38 ⟨g38, rfl, own_base o_x38 hwx.size⟩⟩
      · intro xv_ wx ρ hρ hwx hd K hK
        obtain r0 : xv_ 0 = .agg #[.int .i64 a, .int .i64 b, .string ⟨(rest).toArray⟩, .slice (some ⟨g21, 0, none⟩) ds.length ds.length] := hd 0 rfl
        have e27 : ρ (.tmp 27) = .agg #[.int .i64 a, .int .i64 b, .string ⟨(rest).toArray⟩, .slice (some ⟨g21, 0, none⟩) ds.length ds.length] := (hρ.out 0 27 rfl (by rw [hs.size]; decide) rfl).trans r0
        obtain ⟨g38, r2, o_x38⟩ : ∃ (g38 : Nat), xv_ 2 = .agg #[.int .i64 a, .int .i64 b, .string ⟨(rest).toArray⟩, .slice (some ⟨g38, 0, none⟩) ds.length ds.length] ∧ ((wx).ownsRow w35.heap.size 3 1 (.slice (some ⟨g38, 0, none⟩) ds.length ds.length) ds.length (ds.flatMap cI)) := hd 2 rfl
        have e29 : ρ (.tmp 29) = .agg #[.int .i64 a, .int .i64 b, .string ⟨(rest).toArray⟩, .slice (some ⟨g38, 0, none⟩) ds.length ds.length] := (hρ.out 2 29 rfl (by rw [hs.size]; decide) rfl).trans r2
        refine g_call rfl (hρ.fn _) Try.call20 (arr2 e27 e29) ?_
        refine (eqPacker_same _ _ _ _ _ _ _ _ _ ds _ rfl rfl (by omega) ((Rd.of_own o_x21).below hwx) (Rd.of_own o_x38)).mono ?_
        rintro e wy ⟨rfl, hb39⟩
        exact ⟨_, rfl, hK _ _ hb39 rfl⟩
      · intro xv_ wx ρ hρ hwx hd K hK
        obtain r3 : xv_ 3 = .bool true := hd 3 rfl
        have e30 : ρ (.tmp 30) = .bool true := (hρ.out 3 30 rfl (by rw [hs.size]; decide) rfl).trans r3
        refine g_not rfl e30 ?_
        exact hK _ _ (Below.refl _ _) rfl
    · intro x0_ w40 hb_w40 hr0
      obtain r0 : x0_ 0 = .agg #[.int .i64 a, .int .i64 b, .string ⟨(rest).toArray⟩, .slice (some ⟨g21, 0, none⟩) ds.length ds.length] := hr0 0 (by decide) rfl rfl
      obtain r1 : x0_ 1 = .agg #[.int .i64 a, .int .i64 b, .string ⟨(rest).toArray⟩, .slice B ds.length dp] := hr0 1 (by decide) rfl rfl
      obtain ⟨g38, r2, o_x38⟩ : ∃ (g38 : Nat), x0_ 2 = .agg #[.int .i64 a, .int .i64 b, .string ⟨(rest).toArray⟩, .slice (some ⟨g38, 0, none⟩) ds.length ds.length] ∧ ((w40).ownsRow w35.heap.size 3 1 (.slice (some ⟨g38, 0, none⟩) ds.length ds.length) ds.length (ds.flatMap cI)) := hr0 2 (by decide) rfl rfl
      obtain r3 : x0_ 3 = .bool true := hr0 3 (by decide) rfl rfl
      obtain r4 : x0_ 4 = .bool false := hr0 4 (by decide) rfl rfl
      clear hr0
      replace h_q2 := keep_below h_q2 hb_w40
      replace h_q17 := keep_below h_q17 hb_w40
      replace h_q23 := keep_below h_q23 hb_w40
      replace h_q29 := keep_below h_q29 hb_w40
      replace o_x13 := own_below o_x13 hb_w40
      replace o_x15 := own_below o_x15 hb_w40
      replace o_x21 := own_below o_x21 hb_w40
      replace o_x27 := own_below o_x27 hb_w40
      replace hB := hB.trans (hb_w40.mono hB.size)
      clear hb_w40
      intro xv_ a24 hρ hsz hdf qx_ ql_ qk_ qlk_
      replace s1 : a24.eval (.tmp 1) = .pointer (some ⟨q2, 0, none⟩) := (hρ.inn 1 rfl).trans s1
      replace s2 : a24.eval (.tmp 2) = .bool false := (hρ.inn 2 rfl).trans s2
      replace s4 : a24.eval (.tmp 4) = .pointer (some ⟨q17, 0, none⟩) := (hρ.inn 4 rfl).trans s4
      replace s5 : a24.eval (.tmp 5) = .pointer (some ⟨q23, 0, none⟩) := (hρ.inn 5 rfl).trans s5
      replace s6 : a24.eval (.tmp 6) = .pointer (some ⟨q29, 0, none⟩) := (hρ.inn 6 rfl).trans s6
      have s31 : a24.eval (.tmp 31) = .bool false := (hρ.out 4 31 rfl (by rw [hs.size]; decide)).trans ((qx_ 4 (by decide) rfl rfl).trans r4)
      replace hs : St 69 a24 := ⟨hsz.trans hs.size, hdf.trans hs.nodef⟩
      clear hρ hsz hdf qx_ ql_ qk_ qlk_
      refine hK37 _ _ ?_
      clear hK37
      refine c_false s31 ?_
      refine wp_skip ?_
      refine hK36 _ _ ?_
      clear hK36
      refine wp_seq_k fun K41 hK41 => ?_
      refine wp_region_lit ?_
      refine q_val rfl rfl ?_
      refine g_assign rfl rfl ?_
      intro a25 p25
      have s7 : a25.eval (.tmp 7) = .int .i64 1 := p25.at hs (by decide)
      replace hs := p25.st hs
      refine wpList_nil ?_
      replace s1 : a25.eval (.tmp 1) = .pointer (some ⟨q2, 0, none⟩) := (p25.ne rfl).trans s1
      replace s2 : a25.eval (.tmp 2) = .bool false := (p25.ne rfl).trans s2
      replace s4 : a25.eval (.tmp 4) = .pointer (some ⟨q17, 0, none⟩) := (p25.ne rfl).trans s4
      replace s5 : a25.eval (.tmp 5) = .pointer (some ⟨q23, 0, none⟩) := (p25.ne rfl).trans s5
      replace s6 : a25.eval (.tmp 6) = .pointer (some ⟨q29, 0, none⟩) := (p25.ne rfl).trans s6
      refine hK41 _ _ ?_
      clear hK41
      refine wp_seq_k fun K42 hK42 => ?_
      refine wp_region_lit ?_
      refine q_val rfl rfl ?_
      refine g_loadB rfl s5 Try.isAgg28 Try.sizeOf28 rfl h_q23 ?_
      intro a26 p26
      have s32 : a26.eval (.tmp 32) = .agg #[.int .i64 a, .int .i64 b, .string ⟨(rest).toArray⟩, .slice (some ⟨g21, 0, none⟩) ds.length ds.length] := p26.at hs (by decide)
      replace hs := p26.st hs
      refine q_val rfl rfl ?_
      refine g_move rfl ((p26.ne rfl).trans s7) ?_
      intro a27 p27
      have s33 : a27.eval (.tmp 33) = .int .i64 1 := p27.at hs (by decide)
      replace hs := p27.st hs
      refine q_val rfl rfl ?_
      refine g_call rfl rfl Try.call21 (arr2 ((p27.ne rfl).trans s32) s33) ?_
      refine (markPacker_any   _ (by omega) (by omega) (by omega) o_x21).mono ?_
      rintro e w43_0 ⟨rfl, oo43_0, gg43_0⟩
      refine ⟨_, rfl, ?_⟩
      replace h_q2 := keep_grown h_q2 gg43_0 d_x21_q2
      replace h_q17 := keep_grown h_q17 gg43_0 d_x21_q17
      replace h_q23 := keep_grown h_q23 gg43_0 d_x21_q23
      replace h_q29 := keep_grown h_q29 gg43_0 d_x21_q29
      replace o_x13 := own_grown o_x13 gg43_0 m_x13_x21
      replace o_x15 := own_grown o_x15 gg43_0 m_x15_x21
      replace o_x27 := own_grown o_x27 gg43_0 m_x27_x21
      replace hB := below_grown hB hB.size gg43_0 g_x21
      replace o_x21 := oo43_0
      clear gg43_0
      intro a28 p28
      have s34 : a28.eval (.tmp 34) = .int .i64 (1 + ((ds.length : Nat) : Int)) := p28.at hs (by decide)
      replace hs := p28.st hs
      refine q_val rfl rfl ?_
      refine g_assign rfl s34 ?_
      intro a29 p29
      have s7 : a29.eval (.tmp 7) = .int .i64 (1 + ((ds.length : Nat) : Int)) := p29.at hs (by decide)
      replace hs := p29.st hs
      refine wpList_nil ?_
      replace s1 : a29.eval (.tmp 1) = .pointer (some ⟨q2, 0, none⟩) := ((p29.ne rfl).trans ((p28.ne rfl).trans ((p27.ne rfl).trans (p26.ne rfl)))).trans s1
      replace s2 : a29.eval (.tmp 2) = .bool false := ((p29.ne rfl).trans ((p28.ne rfl).trans ((p27.ne rfl).trans (p26.ne rfl)))).trans s2
      replace s4 : a29.eval (.tmp 4) = .pointer (some ⟨q17, 0, none⟩) := ((p29.ne rfl).trans ((p28.ne rfl).trans ((p27.ne rfl).trans (p26.ne rfl)))).trans s4
      replace s6 : a29.eval (.tmp 6) = .pointer (some ⟨q29, 0, none⟩) := ((p29.ne rfl).trans ((p28.ne rfl).trans ((p27.ne rfl).trans (p26.ne rfl)))).trans s6
      refine hK42 _ _ ?_
      clear hK42
      refine wp_seq_k fun K44 hK44 => ?_
      refine wp_seq_k fun K45 hK45 => ?_
      refine wp_region_lit ?_
      refine q_val rfl rfl ?_
      refine g_move rfl s7 ?_
      intro a30 p30
      have s35 : a30.eval (.tmp 35) = .int .i64 (1 + ((ds.length : Nat) : Int)) := p30.at hs (by decide)
      replace hs := p30.st hs
      refine q_val rfl rfl ?_
      refine g_lss rfl s35 rfl ?_
      intro a31 p31
      have s36 : a31.eval (.tmp 36) = .bool false := (p31.at hs (by decide)).trans (congrArg Value.bool (decide_eq_false (by omega)))
      replace hs := p31.st hs
      refine q_val rfl rfl ?_
      refine g_move rfl s36 ?_
      intro a32 p32
      have s37 : a32.eval (.tmp 37) = .bool false := p32.at hs (by decide)
      replace hs := p32.st hs
      refine q_take rfl rfl s37 rfl ?_
      refine g_loadB rfl (((p32.ne rfl).trans ((p31.ne rfl).trans (p30.ne rfl))).trans s6) Try.isAgg28 Try.sizeOf28 rfl h_q29 ?_
      intro a33 p33
      have s38 : a33.eval (.tmp 38) = .agg #[.int .i64 a, .int .i64 b, .string ⟨((fillR a b rest ds).1).toArray⟩, .slice A27 ((fillR a b rest ds).2.length) c27] := p33.at hs (by decide)
      replace hs := p33.st hs
      refine q_take rfl rfl ((p33.ne rfl).trans s37) rfl ?_
      refine g_loadB rfl (((p33.ne rfl).trans ((p32.ne rfl).trans ((p31.ne rfl).trans (p30.ne rfl)))).trans s4) Try.isAgg28 Try.sizeOf28 rfl h_q17 ?_
      intro a34 p34
      have s39 : a34.eval (.tmp 39) = .agg #[.int .i64 a, .int .i64 b, .string ⟨((fillR a b rest ds).1).toArray⟩, .slice A15 ((fillR a b rest ds).2.length) c15] := p34.at hs (by decide)
      replace hs := p34.st hs
      refine q_take rfl rfl (((p34.ne rfl).trans (p33.ne rfl)).trans s37) rfl ?_
      refine g_call rfl rfl Try.call20 (arr2 ((p34.ne rfl).trans s38) s39) ?_
      refine (eqPacker_same _ _ _ _ _ _ _ _ _ ((fillR a b rest ds).2) _ rfl rfl (by omega) (Rd.of_own o_x27) (Rd.of_own o_x15)).mono ?_
      rintro e w47 ⟨rfl, hb46⟩
      refine ⟨_, rfl, ?_⟩
      replace h_q2 := keep_below h_q2 hb46
      replace h_q17 := keep_below h_q17 hb46
      replace h_q23 := keep_below h_q23 hb46
      replace h_q29 := keep_below h_q29 hb46
      replace o_x13 := own_below o_x13 hb46
      replace o_x15 := own_below o_x15 hb46
      replace o_x21 := own_below o_x21 hb46
      replace o_x27 := own_below o_x27 hb46
      replace hB := hB.trans (hb46.mono hB.size)
      clear hb46
      intro a35 p35
      have s40 : a35.eval (.tmp 40) = .bool true := p35.at hs (by decide)
      replace hs := p35.st hs
      refine q_take rfl rfl (((p35.ne rfl).trans ((p34.ne rfl).trans (p33.ne rfl))).trans s37) rfl ?_
      refine g_not rfl s40 ?_
      intro a36 p36
      have s41 : a36.eval (.tmp 41) = .bool false := p36.at hs (by decide)
      replace hs := p36.st hs
      refine q_val rfl rfl ?_
      refine g_pick_f rfl (((p36.ne rfl).trans ((p35.ne rfl).trans ((p34.ne rfl).trans (p33.ne rfl)))).trans s37) s41 ?_
      intro a37 p37
      have s42 : a37.eval (.tmp 42) = .bool false := p37.at hs (by decide)
      replace hs := p37.st hs
      refine wpList_nil ?_
      replace s1 : a37.eval (.tmp 1) = .pointer (some ⟨q2, 0, none⟩) := ((p37.ne rfl).trans ((p36.ne rfl).trans ((p35.ne rfl).trans ((p34.ne rfl).trans ((p33.ne rfl).trans ((p32.ne rfl).trans ((p31.ne rfl).trans (p30.ne rfl)))))))).trans s1
      replace s2 : a37.eval (.tmp 2) = .bool false := ((p37.ne rfl).trans ((p36.ne rfl).trans ((p35.ne rfl).trans ((p34.ne rfl).trans ((p33.ne rfl).trans ((p32.ne rfl).trans ((p31.ne rfl).trans (p30.ne rfl)))))))).trans s2
      replace s4 : a37.eval (.tmp 4) = .pointer (some ⟨q17, 0, none⟩) := ((p37.ne rfl).trans ((p36.ne rfl).trans ((p35.ne rfl).trans ((p34.ne rfl).trans ((p33.ne rfl).trans ((p32.ne rfl).trans ((p31.ne rfl).trans (p30.ne rfl)))))))).trans s4
      replace s6 : a37.eval (.tmp 6) = .pointer (some ⟨q29, 0, none⟩) := ((p37.ne rfl).trans ((p36.ne rfl).trans ((p35.ne rfl).trans ((p34.ne rfl).trans ((p33.ne rfl).trans ((p32.ne rfl).trans ((p31.ne rfl).trans (p30.ne rfl)))))))).trans s6
      refine hK45 _ _ ?_
      clear hK45
      refine c_false s42 ?_
      refine wp_skip ?_
      refine hK44 _ _ ?_
      clear hK44
      refine wp_seq_k fun K48 hK48 => ?_
      refine wp_region_lit ?_
      refine q_val rfl rfl ?_
      refine g_assign rfl rfl ?_
      intro a38 p38
      have s8 : a38.eval (.tmp 8) = .int .i64 1 := p38.at hs (by decide)
      replace hs := p38.st hs
      refine wpList_nil ?_
      replace s1 : a38.eval (.tmp 1) = .pointer (some ⟨q2, 0, none⟩) := (p38.ne rfl).trans s1
      replace s2 : a38.eval (.tmp 2) = .bool false := (p38.ne rfl).trans s2
      replace s4 : a38.eval (.tmp 4) = .pointer (some ⟨q17, 0, none⟩) := (p38.ne rfl).trans s4
      replace s6 : a38.eval (.tmp 6) = .pointer (some ⟨q29, 0, none⟩) := (p38.ne rfl).trans s6
      refine hK48 _ _ ?_
      clear hK48
      refine wp_seq_k fun K49 hK49 => ?_
      refine wp_region_lit ?_
      refine q_val rfl rfl ?_
      refine g_loadB rfl s6 Try.isAgg28 Try.sizeOf28 rfl h_q29 ?_
      intro a39 p39
      have s43 : a39.eval (.tmp 43) = .agg #[.int .i64 a, .int .i64 b, .string ⟨((fillR a b rest ds).1).toArray⟩, .slice A27 ((fillR a b rest ds).2.length) c27] := p39.at hs (by decide)
      replace hs := p39.st hs
      refine q_val rfl rfl ?_
      refine g_move rfl ((p39.ne rfl).trans s8) ?_
      intro a40 p40
      have s44 : a40.eval (.tmp 44) = .int .i64 1 := p40.at hs (by decide)
      replace hs := p40.st hs
      refine q_val rfl rfl ?_
      refine g_call rfl rfl Try.call21 (arr2 ((p40.ne rfl).trans s43) s44) ?_
      refine (markPacker_any   _ (by omega) (by omega) (by omega) o_x27).mono ?_
      rintro e w50_0 ⟨rfl, oo50_0, gg50_0⟩
      refine ⟨_, rfl, ?_⟩
      replace h_q2 := keep_grown h_q2 gg50_0 d_x27_q2
      replace h_q17 := keep_grown h_q17 gg50_0 d_x27_q17
      replace h_q23 := keep_grown h_q23 gg50_0 d_x27_q23
      replace h_q29 := keep_grown h_q29 gg50_0 d_x27_q29
      replace o_x13 := own_grown o_x13 gg50_0 m_x13_x27
      replace o_x15 := own_grown o_x15 gg50_0 m_x15_x27
      replace o_x21 := own_grown o_x21 gg50_0 m_x21_x27
      replace hB := below_grown hB hB.size gg50_0 g_x27
      replace o_x27 := oo50_0
      clear gg50_0
      intro a41 p41
      have s45 : a41.eval (.tmp 45) = .int .i64 (1 + (((fillR a b rest ds).2.length : Nat) : Int)) := p41.at hs (by decide)
      replace hs := p41.st hs
      refine q_val rfl rfl ?_
      refine g_assign rfl s45 ?_
      intro a42 p42
      have s8 : a42.eval (.tmp 8) = .int .i64 (1 + (((fillR a b rest ds).2.length : Nat) : Int)) := p42.at hs (by decide)
      replace hs := p42.st hs
      refine wpList_nil ?_
      replace s1 : a42.eval (.tmp 1) = .pointer (some ⟨q2, 0, none⟩) := ((p42.ne rfl).trans ((p41.ne rfl).trans ((p40.ne rfl).trans (p39.ne rfl)))).trans s1
      replace s2 : a42.eval (.tmp 2) = .bool false := ((p42.ne rfl).trans ((p41.ne rfl).trans ((p40.ne rfl).trans (p39.ne rfl)))).trans s2
      replace s4 : a42.eval (.tmp 4) = .pointer (some ⟨q17, 0, none⟩) := ((p42.ne rfl).trans ((p41.ne rfl).trans ((p40.ne rfl).trans (p39.ne rfl)))).trans s4
      replace s6 : a42.eval (.tmp 6) = .pointer (some ⟨q29, 0, none⟩) := ((p42.ne rfl).trans ((p41.ne rfl).trans ((p40.ne rfl).trans (p39.ne rfl)))).trans s6
      refine hK49 _ _ ?_
      clear hK49
      refine wp_seq_k fun K51 hK51 => ?_
      refine wp_region_lit ?_
      refine q_val rfl rfl ?_
      refine g_assign rfl rfl ?_
      intro a43 p43
      have s9 : a43.eval (.tmp 9) = .int .i64 1 := p43.at hs (by decide)
      replace hs := p43.st hs
      refine wpList_nil ?_
      replace s1 : a43.eval (.tmp 1) = .pointer (some ⟨q2, 0, none⟩) := (p43.ne rfl).trans s1
      replace s2 : a43.eval (.tmp 2) = .bool false := (p43.ne rfl).trans s2
      replace s4 : a43.eval (.tmp 4) = .pointer (some ⟨q17, 0, none⟩) := (p43.ne rfl).trans s4
      replace s6 : a43.eval (.tmp 6) = .pointer (some ⟨q29, 0, none⟩) := (p43.ne rfl).trans s6
      replace s8 : a43.eval (.tmp 8) = .int .i64 (1 + (((fillR a b rest ds).2.length : Nat) : Int)) := (p43.ne rfl).trans s8
      refine hK51 _ _ ?_
      clear hK51
      refine wp_seq_k fun K52 hK52 => ?_
      refine wp_region_lit ?_
      refine q_val rfl rfl ?_
      refine g_loadB rfl s6 Try.isAgg28 Try.sizeOf28 rfl h_q29 ?_
      intro a44 p44
      have s46 : a44.eval (.tmp 46) = .agg #[.int .i64 a, .int .i64 b, .string ⟨((fillR a b rest ds).1).toArray⟩, .slice A27 ((fillR a b rest ds).2.length) c27] := p44.at hs (by decide)
      replace hs := p44.st hs
      refine q_val rfl rfl ?_
      refine g_move rfl ((p44.ne rfl).trans s9) ?_
      intro a45 p45
      have s47 : a45.eval (.tmp 47) = .int .i64 1 := p45.at hs (by decide)
      replace hs := p45.st hs
      refine q_val rfl rfl ?_
      refine g_call rfl rfl Try.call22 (arr2 ((p45.ne rfl).trans s46) s47) ?_
      refine (heldPacker_any _ (by omega) (by omega) (by omega) (Rd.of_own o_x27)).mono ?_
      rintro e w54 ⟨rfl, hb53⟩
      refine ⟨_, rfl, ?_⟩
      replace h_q2 := keep_below h_q2 hb53
      replace h_q17 := keep_below h_q17 hb53
      replace h_q23 := keep_below h_q23 hb53
      replace h_q29 := keep_below h_q29 hb53
      replace o_x13 := own_below o_x13 hb53
      replace o_x15 := own_below o_x15 hb53
      replace o_x21 := own_below o_x21 hb53
      replace o_x27 := own_below o_x27 hb53
      replace hB := hB.trans (hb53.mono hB.size)
      clear hb53
      intro a46 p46
      have s48 : a46.eval (.tmp 48) = .int .i64 (1 + (((fillR a b rest ds).2.length : Nat) : Int)) := p46.at hs (by decide)
      replace hs := p46.st hs
      refine q_val rfl rfl ?_
      refine g_assign rfl s48 ?_
      intro a47 p47
      have s9 : a47.eval (.tmp 9) = .int .i64 (1 + (((fillR a b rest ds).2.length : Nat) : Int)) := p47.at hs (by decide)
      replace hs := p47.st hs
      refine wpList_nil ?_
      replace s1 : a47.eval (.tmp 1) = .pointer (some ⟨q2, 0, none⟩) := ((p47.ne rfl).trans ((p46.ne rfl).trans ((p45.ne rfl).trans (p44.ne rfl)))).trans s1
      replace s2 : a47.eval (.tmp 2) = .bool false := ((p47.ne rfl).trans ((p46.ne rfl).trans ((p45.ne rfl).trans (p44.ne rfl)))).trans s2
      replace s4 : a47.eval (.tmp 4) = .pointer (some ⟨q17, 0, none⟩) := ((p47.ne rfl).trans ((p46.ne rfl).trans ((p45.ne rfl).trans (p44.ne rfl)))).trans s4
      replace s6 : a47.eval (.tmp 6) = .pointer (some ⟨q29, 0, none⟩) := ((p47.ne rfl).trans ((p46.ne rfl).trans ((p45.ne rfl).trans (p44.ne rfl)))).trans s6
      replace s8 : a47.eval (.tmp 8) = .int .i64 (1 + (((fillR a b rest ds).2.length : Nat) : Int)) := ((p47.ne rfl).trans ((p46.ne rfl).trans ((p45.ne rfl).trans (p44.ne rfl)))).trans s8
      refine hK52 _ _ ?_
      clear hK52
      refine wp_seq_k fun K55 hK55 => ?_
      refine wp_seq_k fun K56 hK56 => ?_
      refine wp_region_lit ?_
      refine q_val rfl rfl ?_
      refine g_move rfl s9 ?_
      intro a48 p48
      have s49 : a48.eval (.tmp 49) = .int .i64 (1 + (((fillR a b rest ds).2.length : Nat) : Int)) := p48.at hs (by decide)
      replace hs := p48.st hs
      refine q_val rfl rfl ?_
      refine g_lss rfl s49 rfl ?_
      intro a49 p49
      have s50 : a49.eval (.tmp 50) = .bool false := (p49.at hs (by decide)).trans (congrArg Value.bool (decide_eq_false (by omega)))
      replace hs := p49.st hs
      refine wpList_nil ?_
      replace s1 : a49.eval (.tmp 1) = .pointer (some ⟨q2, 0, none⟩) := ((p49.ne rfl).trans (p48.ne rfl)).trans s1
      replace s2 : a49.eval (.tmp 2) = .bool false := ((p49.ne rfl).trans (p48.ne rfl)).trans s2
      replace s4 : a49.eval (.tmp 4) = .pointer (some ⟨q17, 0, none⟩) := ((p49.ne rfl).trans (p48.ne rfl)).trans s4
      replace s6 : a49.eval (.tmp 6) = .pointer (some ⟨q29, 0, none⟩) := ((p49.ne rfl).trans (p48.ne rfl)).trans s6
      replace s8 : a49.eval (.tmp 8) = .int .i64 (1 + (((fillR a b rest ds).2.length : Nat) : Int)) := ((p49.ne rfl).trans (p48.ne rfl)).trans s8
      replace s9 : a49.eval (.tmp 9) = .int .i64 (1 + (((fillR a b rest ds).2.length : Nat) : Int)) := ((p49.ne rfl).trans (p48.ne rfl)).trans s9
      refine hK56 _ _ ?_
      clear hK56
      refine c_false s50 ?_
      refine wp_skip ?_
      refine hK55 _ _ ?_
      clear hK55
      refine wp_seq_k fun K57 hK57 => ?_
      refine wp_seq_k fun K58 hK58 => ?_
      refine wp_region_lit ?_
      refine q_val rfl rfl ?_
      refine g_move rfl s9 ?_
      intro a50 p50
      have s51 : a50.eval (.tmp 51) = .int .i64 (1 + (((fillR a b rest ds).2.length : Nat) : Int)) := p50.at hs (by decide)
      replace hs := p50.st hs
      refine q_val rfl rfl ?_
      refine g_move rfl ((p50.ne rfl).trans s8) ?_
      intro a51 p51
      have s52 : a51.eval (.tmp 52) = .int .i64 (1 + (((fillR a b rest ds).2.length : Nat) : Int)) := p51.at hs (by decide)
      replace hs := p51.st hs
      refine q_val rfl rfl ?_
      refine g_neq rfl ((p51.ne rfl).trans s51) s52 ?_
      intro a52 p52
      have s53 : a52.eval (.tmp 53) = .bool false := (p52.at hs (by decide)).trans (congrArg (fun b => Value.bool (!b)) (decide_eq_true rfl))
      replace hs := p52.st hs
      refine wpList_nil ?_
      replace s1 : a52.eval (.tmp 1) = .pointer (some ⟨q2, 0, none⟩) := ((p52.ne rfl).trans ((p51.ne rfl).trans (p50.ne rfl))).trans s1
      replace s2 : a52.eval (.tmp 2) = .bool false := ((p52.ne rfl).trans ((p51.ne rfl).trans (p50.ne rfl))).trans s2
      replace s4 : a52.eval (.tmp 4) = .pointer (some ⟨q17, 0, none⟩) := ((p52.ne rfl).trans ((p51.ne rfl).trans (p50.ne rfl))).trans s4
      replace s6 : a52.eval (.tmp 6) = .pointer (some ⟨q29, 0, none⟩) := ((p52.ne rfl).trans ((p51.ne rfl).trans (p50.ne rfl))).trans s6
      replace s8 : a52.eval (.tmp 8) = .int .i64 (1 + (((fillR a b rest ds).2.length : Nat) : Int)) := ((p52.ne rfl).trans ((p51.ne rfl).trans (p50.ne rfl))).trans s8
      replace s9 : a52.eval (.tmp 9) = .int .i64 (1 + (((fillR a b rest ds).2.length : Nat) : Int)) := ((p52.ne rfl).trans ((p51.ne rfl).trans (p50.ne rfl))).trans s9
      refine hK58 _ _ ?_
      clear hK58
      refine c_false s53 ?_
      refine wp_skip ?_
      refine hK57 _ _ ?_
      clear hK57
      refine wp_seq_k fun K59 hK59 => ?_
      refine wp_region_lit ?_
      refine q_val rfl rfl ?_
      refine g_loadB rfl s1 Try.isAgg48 Try.sizeOf48 rfl h_q2 ?_
      intro a53 p53
      have s54 : a53.eval (.tmp 54) = .agg #[.int .i64 a, .int .i64 b, .string ⟨(rest).toArray⟩, .slice B ds.length dp] := p53.at hs (by decide)
      replace hs := p53.st hs
      refine q_val rfl rfl ?_
      refine g_call rfl rfl Try.call19 (arr1 s54) ?_
      refine (toPacker_any _ _ _ _ _ _ ds _ rfl hm2 (hr_d.below hB)).mono ?_
      rintro e w61 ⟨g60, rfl, o_x60, hb60⟩
      refine ⟨_, rfl, ?_⟩
      have d_x60_q2 := own_ne_box o_x60 (lt_of_block h_q2)
      have d_x60_q17 := own_ne_box o_x60 (lt_of_block h_q17)
      have d_x60_q23 := own_ne_box o_x60 (lt_of_block h_q23)
      have d_x60_q29 := own_ne_box o_x60 (lt_of_block h_q29)
      have m_x13_x60 := own_ne_row o_x13 o_x60 (Nat.le_refl _)
      have m_x60_x13 := ne_row_symm m_x13_x60
      have m_x15_x60 := own_ne_row o_x15 o_x60 (Nat.le_refl _)
      have m_x60_x15 := ne_row_symm m_x15_x60
      have m_x21_x60 := own_ne_row o_x21 o_x60 (Nat.le_refl _)
      have m_x60_x21 := ne_row_symm m_x21_x60
      have m_x27_x60 := own_ne_row o_x27 o_x60 (Nat.le_refl _)
      have m_x60_x27 := ne_row_symm m_x27_x60
      have g_x60 : ∀ b, ((some ⟨g60, 0, none⟩) : Option Addr).map (·.block) = some b → w.heap.size ≤ b := fun b h => Nat.le_trans hB.size (own_row o_x60 b h).1
      replace o_x60 := own_base (base := w.heap.size) o_x60 hB.size
      replace h_q2 := keep_below h_q2 hb60
      replace h_q17 := keep_below h_q17 hb60
      replace h_q23 := keep_below h_q23 hb60
      replace h_q29 := keep_below h_q29 hb60
      replace o_x13 := own_below o_x13 hb60
      replace o_x15 := own_below o_x15 hb60
      replace o_x21 := own_below o_x21 hb60
      replace o_x27 := own_below o_x27 hb60
      replace hB := hB.trans (hb60.mono hB.size)
      clear hb60
      intro a54 p54
      have s55 : a54.eval (.tmp 55) = .agg #[.int .i64 a, .int .i64 b, .string ⟨(rest).toArray⟩, .slice (some ⟨g60, 0, none⟩) ds.length ds.length] := p54.at hs (by decide)
      replace hs := p54.st hs
      refine q_val rfl rfl ?_
      refine g_call rfl rfl Try.call11 (arr1 s55) ?_
      refine (fillPacker_any _ _ _ _ _ _ ds _ hxr rfl hm2 (own_nil o_x60) (Rd.of_own o_x60)).mono ?_
      rintro e w63 ⟨_, rfl, ⟨A62, _, c62, rfl, rfl, o_x62⟩, hb62⟩
      refine ⟨_, rfl, ?_⟩
      have d_x62_q2 := own_ne_box o_x62 (lt_of_block h_q2)
      have d_x62_q17 := own_ne_box o_x62 (lt_of_block h_q17)
      have d_x62_q23 := own_ne_box o_x62 (lt_of_block h_q23)
      have d_x62_q29 := own_ne_box o_x62 (lt_of_block h_q29)
      have m_x13_x62 := own_ne_row o_x13 o_x62 (Nat.le_refl _)
      have m_x62_x13 := ne_row_symm m_x13_x62
      have m_x15_x62 := own_ne_row o_x15 o_x62 (Nat.le_refl _)
      have m_x62_x15 := ne_row_symm m_x15_x62
      have m_x21_x62 := own_ne_row o_x21 o_x62 (Nat.le_refl _)
      have m_x62_x21 := ne_row_symm m_x21_x62
      have m_x27_x62 := own_ne_row o_x27 o_x62 (Nat.le_refl _)
      have m_x62_x27 := ne_row_symm m_x27_x62
      have m_x60_x62 := own_ne_row o_x60 o_x62 (Nat.le_refl _)
      have m_x62_x60 := ne_row_symm m_x60_x62
      have g_x62 : ∀ b, (A62 : Option Addr).map (·.block) = some b → w.heap.size ≤ b := fun b h => Nat.le_trans hB.size (own_row o_x62 b h).1
      replace o_x62 := own_base (base := w.heap.size) o_x62 hB.size
      replace h_q2 := keep_below h_q2 hb62
      replace h_q17 := keep_below h_q17 hb62
      replace h_q23 := keep_below h_q23 hb62
      replace h_q29 := keep_below h_q29 hb62
      replace o_x13 := own_below o_x13 hb62
      replace o_x15 := own_below o_x15 hb62
      replace o_x21 := own_below o_x21 hb62
      replace o_x27 := own_below o_x27 hb62
      replace o_x60 := own_below o_x60 hb62
      replace hB := hB.trans (hb62.mono hB.size)
      clear hb62
      intro a55 p55
      have s56 : a55.eval (.tmp 56) = .agg #[.int .i64 a, .int .i64 b, .string ⟨((fillR a b rest ds).1).toArray⟩, .slice A62 ((fillR a b rest ds).2.length) c62] := p55.at hs (by decide)
      replace hs := p55.st hs
      refine q_val rfl rfl ?_
      refine g_alloc rfl Try.zeroValue28 rfl ?_
      intro q64 w65 N_q64
      have n_q2_q64 := N_q64.ne ⟨lt_of_block h_q2⟩
      have n_q64_q2 := n_q2_q64.symm
      have n_q17_q64 := N_q64.ne ⟨lt_of_block h_q17⟩
      have n_q64_q17 := n_q17_q64.symm
      have n_q23_q64 := N_q64.ne ⟨lt_of_block h_q23⟩
      have n_q64_q23 := n_q23_q64.symm
      have n_q29_q64 := N_q64.ne ⟨lt_of_block h_q29⟩
      have n_q64_q29 := n_q29_q64.symm
      have d_x13_q64 := own_ne_new o_x13 N_q64
      have d_x15_q64 := own_ne_new o_x15 N_q64
      have d_x21_q64 := own_ne_new o_x21 N_q64
      have d_x27_q64 := own_ne_new o_x27 N_q64
      have d_x60_q64 := own_ne_new o_x60 N_q64
      have d_x62_q64 := own_ne_new o_x62 N_q64
      have g_q64 : GeB w.heap.size q64 := ⟨Nat.le_trans hB.size N_q64.lo⟩
      replace h_q2 := keep_below h_q2 N_q64.below
      replace h_q17 := keep_below h_q17 N_q64.below
      replace h_q23 := keep_below h_q23 N_q64.below
      replace h_q29 := keep_below h_q29 N_q64.below
      replace o_x13 := own_below o_x13 N_q64.below
      replace o_x15 := own_below o_x15 N_q64.below
      replace o_x21 := own_below o_x21 N_q64.below
      replace o_x27 := own_below o_x27 N_q64.below
      replace o_x60 := own_below o_x60 N_q64.below
      replace o_x62 := own_below o_x62 N_q64.below
      replace hB := below_new hB hB.size N_q64
      have h_q64 := N_q64.here
      clear N_q64
      intro a56 p56
      have s10 : a56.eval (.tmp 10) = .pointer (some ⟨q64, 0, none⟩) := p56.at hs (by decide)
      replace hs := p56.st hs
      refine q_eff rfl rfl ?_
      refine g_storeB rfl s10 ((p56.ne rfl).trans s56) Try.sizeOf28 rfl rfl h_q64 rfl ?_
      intro w66 W_w66
      replace h_q2 := keep_wrote h_q2 W_w66 n_q64_q2
      replace h_q17 := keep_wrote h_q17 W_w66 n_q64_q17
      replace h_q23 := keep_wrote h_q23 W_w66 n_q64_q23
      replace h_q29 := keep_wrote h_q29 W_w66 n_q64_q29
      replace h_q64 := W_w66.here
      replace o_x13 := own_wrote o_x13 W_w66 d_x13_q64
      replace o_x15 := own_wrote o_x15 W_w66 d_x15_q64
      replace o_x21 := own_wrote o_x21 W_w66 d_x21_q64
      replace o_x27 := own_wrote o_x27 W_w66 d_x27_q64
      replace o_x60 := own_wrote o_x60 W_w66 d_x60_q64
      replace o_x62 := own_wrote o_x62 W_w66 d_x62_q64
      replace hB := below_wrote hB hB.size W_w66 g_q64.le
      clear W_w66
      refine wpList_nil ?_
      replace s2 : a56.eval (.tmp 2) = .bool false := ((p56.ne rfl).trans ((p55.ne rfl).trans ((p54.ne rfl).trans (p53.ne rfl)))).trans s2
      replace s4 : a56.eval (.tmp 4) = .pointer (some ⟨q17, 0, none⟩) := ((p56.ne rfl).trans ((p55.ne rfl).trans ((p54.ne rfl).trans (p53.ne rfl)))).trans s4
      replace s6 : a56.eval (.tmp 6) = .pointer (some ⟨q29, 0, none⟩) := ((p56.ne rfl).trans ((p55.ne rfl).trans ((p54.ne rfl).trans (p53.ne rfl)))).trans s6
      replace s8 : a56.eval (.tmp 8) = .int .i64 (1 + (((fillR a b rest ds).2.length : Nat) : Int)) := ((p56.ne rfl).trans ((p55.ne rfl).trans ((p54.ne rfl).trans (p53.ne rfl)))).trans s8
      replace s9 : a56.eval (.tmp 9) = .int .i64 (1 + (((fillR a b rest ds).2.length : Nat) : Int)) := ((p56.ne rfl).trans ((p55.ne rfl).trans ((p54.ne rfl).trans (p53.ne rfl)))).trans s9
      refine hK59 _ _ ?_
      clear hK59
      refine wp_seq_k fun K67 hK67 => ?_
      refine wp_seq_k fun K68 hK68 => ?_
      refine wp_region_lit ?_
      refine q_val rfl rfl ?_
      refine g_loadB rfl s10 Try.isAgg28 Try.sizeOf28 rfl h_q64 ?_
      intro a57 p57
      have s57 : a57.eval (.tmp 57) = .agg #[.int .i64 a, .int .i64 b, .string ⟨((fillR a b rest ds).1).toArray⟩, .slice A62 ((fillR a b rest ds).2.length) c62] := p57.at hs (by decide)
      replace hs := p57.st hs
      refine q_val rfl rfl ?_
      refine g_loadB rfl ((p57.ne rfl).trans s4) Try.isAgg28 Try.sizeOf28 rfl h_q17 ?_
      intro a58 p58
      have s58 : a58.eval (.tmp 58) = .agg #[.int .i64 a, .int .i64 b, .string ⟨((fillR a b rest ds).1).toArray⟩, .slice A15 ((fillR a b rest ds).2.length) c15] := p58.at hs (by decide)
      replace hs := p58.st hs
      refine q_val rfl rfl ?_
      refine g_call rfl rfl Try.call20 (arr2 ((p58.ne rfl).trans s57) s58) ?_
      refine (eqPacker_same _ _ _ _ _ _ _ _ _ ((fillR a b rest ds).2) _ rfl rfl (by omega) (Rd.of_own o_x62) (Rd.of_own o_x15)).mono ?_
      rintro e w70 ⟨rfl, hb69⟩
      refine ⟨_, rfl, ?_⟩
      replace h_q2 := keep_below h_q2 hb69
      replace h_q17 := keep_below h_q17 hb69
      replace h_q23 := keep_below h_q23 hb69
      replace h_q29 := keep_below h_q29 hb69
      replace h_q64 := keep_below h_q64 hb69
      replace o_x13 := own_below o_x13 hb69
      replace o_x15 := own_below o_x15 hb69
      replace o_x21 := own_below o_x21 hb69
      replace o_x27 := own_below o_x27 hb69
      replace o_x60 := own_below o_x60 hb69
      replace o_x62 := own_below o_x62 hb69
      replace hB := hB.trans (hb69.mono hB.size)
      clear hb69
      intro a59 p59
      have s59 : a59.eval (.tmp 59) = .bool true := p59.at hs (by decide)
      replace hs := p59.st hs
      refine q_val rfl rfl ?_
      refine g_not rfl s59 ?_
      intro a60 p60
      have s60 : a60.eval (.tmp 60) = .bool false := p60.at hs (by decide)
      replace hs := p60.st hs
      refine wpList_nil ?_
      replace s2 : a60.eval (.tmp 2) = .bool false := ((p60.ne rfl).trans ((p59.ne rfl).trans ((p58.ne rfl).trans (p57.ne rfl)))).trans s2
      replace s6 : a60.eval (.tmp 6) = .pointer (some ⟨q29, 0, none⟩) := ((p60.ne rfl).trans ((p59.ne rfl).trans ((p58.ne rfl).trans (p57.ne rfl)))).trans s6
      replace s8 : a60.eval (.tmp 8) = .int .i64 (1 + (((fillR a b rest ds).2.length : Nat) : Int)) := ((p60.ne rfl).trans ((p59.ne rfl).trans ((p58.ne rfl).trans (p57.ne rfl)))).trans s8
      replace s9 : a60.eval (.tmp 9) = .int .i64 (1 + (((fillR a b rest ds).2.length : Nat) : Int)) := ((p60.ne rfl).trans ((p59.ne rfl).trans ((p58.ne rfl).trans (p57.ne rfl)))).trans s9
      refine hK68 _ _ ?_
      clear hK68
      refine c_false s60 ?_
      refine wp_skip ?_
      refine hK67 _ _ ?_
      clear hK67
      refine wp_seq_k fun K71 hK71 => ?_
      refine wp_region_lit ?_
      refine q_val rfl rfl ?_
      refine g_assign rfl rfl ?_
      intro a61 p61
      have s9 : a61.eval (.tmp 9) = .int .i64 1 := p61.at hs (by decide)
      replace hs := p61.st hs
      refine wpList_nil ?_
      replace s2 : a61.eval (.tmp 2) = .bool false := (p61.ne rfl).trans s2
      replace s6 : a61.eval (.tmp 6) = .pointer (some ⟨q29, 0, none⟩) := (p61.ne rfl).trans s6
      replace s8 : a61.eval (.tmp 8) = .int .i64 (1 + (((fillR a b rest ds).2.length : Nat) : Int)) := (p61.ne rfl).trans s8
      refine hK71 _ _ ?_
      clear hK71
      refine wp_seq_k fun K72 hK72 => ?_
      refine wp_region_lit ?_
      refine q_val rfl rfl ?_
      refine g_loadB rfl s6 Try.isAgg28 Try.sizeOf28 rfl h_q29 ?_
      intro a62 p62
      have s61 : a62.eval (.tmp 61) = .agg #[.int .i64 a, .int .i64 b, .string ⟨((fillR a b rest ds).1).toArray⟩, .slice A27 ((fillR a b rest ds).2.length) c27] := p62.at hs (by decide)
      replace hs := p62.st hs
      refine q_val rfl rfl ?_
      refine g_move rfl ((p62.ne rfl).trans s9) ?_
      intro a63 p63
      have s62 : a63.eval (.tmp 62) = .int .i64 1 := p63.at hs (by decide)
      replace hs := p63.st hs
      refine q_val rfl rfl ?_
      refine g_call rfl rfl Try.call22 (arr2 ((p63.ne rfl).trans s61) s62) ?_
      refine (heldPacker_any _ (by omega) (by omega) (by omega) (Rd.of_own o_x27)).mono ?_
      rintro e w74 ⟨rfl, hb73⟩
      refine ⟨_, rfl, ?_⟩
      replace h_q2 := keep_below h_q2 hb73
      replace h_q17 := keep_below h_q17 hb73
      replace h_q23 := keep_below h_q23 hb73
      replace h_q29 := keep_below h_q29 hb73
      replace h_q64 := keep_below h_q64 hb73
      replace o_x13 := own_below o_x13 hb73
      replace o_x15 := own_below o_x15 hb73
      replace o_x21 := own_below o_x21 hb73
      replace o_x27 := own_below o_x27 hb73
      replace o_x60 := own_below o_x60 hb73
      replace o_x62 := own_below o_x62 hb73
      replace hB := hB.trans (hb73.mono hB.size)
      clear hb73
      intro a64 p64
      have s63 : a64.eval (.tmp 63) = .int .i64 (1 + (((fillR a b rest ds).2.length : Nat) : Int)) := p64.at hs (by decide)
      replace hs := p64.st hs
      refine q_val rfl rfl ?_
      refine g_assign rfl s63 ?_
      intro a65 p65
      have s9 : a65.eval (.tmp 9) = .int .i64 (1 + (((fillR a b rest ds).2.length : Nat) : Int)) := p65.at hs (by decide)
      replace hs := p65.st hs
      refine wpList_nil ?_
      replace s2 : a65.eval (.tmp 2) = .bool false := ((p65.ne rfl).trans ((p64.ne rfl).trans ((p63.ne rfl).trans (p62.ne rfl)))).trans s2
      replace s8 : a65.eval (.tmp 8) = .int .i64 (1 + (((fillR a b rest ds).2.length : Nat) : Int)) := ((p65.ne rfl).trans ((p64.ne rfl).trans ((p63.ne rfl).trans (p62.ne rfl)))).trans s8
      refine hK72 _ _ ?_
      clear hK72
      refine wp_seq_k fun K75 hK75 => ?_
      refine wp_seq_k fun K76 hK76 => ?_
      refine wp_region_lit ?_
      refine q_val rfl rfl ?_
      refine g_move rfl s9 ?_
      intro a66 p66
      have s64 : a66.eval (.tmp 64) = .int .i64 (1 + (((fillR a b rest ds).2.length : Nat) : Int)) := p66.at hs (by decide)
      replace hs := p66.st hs
      refine q_val rfl rfl ?_
      refine g_lss rfl s64 rfl ?_
      intro a67 p67
      have s65 : a67.eval (.tmp 65) = .bool false := (p67.at hs (by decide)).trans (congrArg Value.bool (decide_eq_false (by omega)))
      replace hs := p67.st hs
      refine wpList_nil ?_
      replace s2 : a67.eval (.tmp 2) = .bool false := ((p67.ne rfl).trans (p66.ne rfl)).trans s2
      replace s8 : a67.eval (.tmp 8) = .int .i64 (1 + (((fillR a b rest ds).2.length : Nat) : Int)) := ((p67.ne rfl).trans (p66.ne rfl)).trans s8
      replace s9 : a67.eval (.tmp 9) = .int .i64 (1 + (((fillR a b rest ds).2.length : Nat) : Int)) := ((p67.ne rfl).trans (p66.ne rfl)).trans s9
      refine hK76 _ _ ?_
      clear hK76
      refine c_false s65 ?_
      refine wp_skip ?_
      refine hK75 _ _ ?_
      clear hK75
      refine wp_seq_k fun K77 hK77 => ?_
      refine wp_seq_k fun K78 hK78 => ?_
      refine wp_region_lit ?_
      refine q_val rfl rfl ?_
      refine g_move rfl s9 ?_
      intro a68 p68
      have s66 : a68.eval (.tmp 66) = .int .i64 (1 + (((fillR a b rest ds).2.length : Nat) : Int)) := p68.at hs (by decide)
      replace hs := p68.st hs
      refine q_val rfl rfl ?_
      refine g_move rfl ((p68.ne rfl).trans s8) ?_
      intro a69 p69
      have s67 : a69.eval (.tmp 67) = .int .i64 (1 + (((fillR a b rest ds).2.length : Nat) : Int)) := p69.at hs (by decide)
      replace hs := p69.st hs
      refine q_val rfl rfl ?_
      refine g_neq rfl ((p69.ne rfl).trans s66) s67 ?_
      intro a70 p70
      have s68 : a70.eval (.tmp 68) = .bool false := (p70.at hs (by decide)).trans (congrArg (fun b => Value.bool (!b)) (decide_eq_true rfl))
      replace hs := p70.st hs
      refine wpList_nil ?_
      replace s2 : a70.eval (.tmp 2) = .bool false := ((p70.ne rfl).trans ((p69.ne rfl).trans (p68.ne rfl))).trans s2
      refine hK78 _ _ ?_
      clear hK78
      refine c_false s68 ?_
      refine wp_skip ?_
      refine hK77 _ _ ?_
      clear hK77
      refine wp_seq_k fun K79 hK79 => ?_
      refine wp_region_lit ?_
      refine q_val rfl rfl ?_
      refine g_assign rfl rfl ?_
      intro a71 p71
      have s2 : a71.eval (.tmp 2) = .bool true := p71.at hs (by decide)
      replace hs := p71.st hs
      refine wpList_nil ?_
      refine hK79 _ _ ?_
      clear hK79
      refine wp_ret ?_
      try dsimp only [Exit.then, Exit.inBlock]
      refine ret1 hs Try.results4 (res_tmp s2) ?_
      exact ⟨rfl, hB⟩

/-! ### The row's step, written by a program of ours (frame.py) -/
namespace fnExactFillPackerDone
open Go.ChangeShapes Go.WideShapes Go.ChangeAt
open Go.ChangeMaps (open_string)
theorem own : ownKnob Try.prog.godebug = none := by kernel_rfl
theorem laidOut : laidOutB Try.prog = true := by kernel_rfl
set_option maxRecDepth 100000 in
theorem lifted (os : Os) (started : os.Started) (H : Type) (enc : TypeId × Value → H) :
    ReturnsInHanded {} Try.checked os 4 .any (Rows.fnExactFillPackerSpec.pre6 enc Try.prog Try.f4 Rows.fnExactFillPackerRow.domain false) (Rows.fnExactFillPackerSpec.post enc Try.prog Try.f4 false true false false) := by
  refine returnsInHanded_of_change (C := Try.checked) own started (by kernel_rfl) Try.func4
    (ChangeSpec.witness6 (enc := enc) (C := Try.checked) false ⟨#[], #[.agg #[.int .i64 0, .int .i64 0, .string .empty, .slice none 0 0]], []⟩ 8 (by kernel_rfl) (by kernel_rfl) (by kernel_rfl) (by kernel_rfl)) ?_
  intro W base args ds gs before hval0 hW hcnd _
  have hval : ∀ (j : Nat) t v, Try.f4.params[j]? = some t → args[j]? = some v → Value.okWide Try.prog W .any base t v := hval0
  have hW' := hW
  obtain ⟨p, q, hA0, hV, rfl, hfz, hnd⟩ := hW
  have hA : DataW.TrodAll enc Try.prog W 0 (fun _ => true) true Try.f4.params.toList args.toList ds p := hA0
  rw [Try.params4] at hA hval
  obtain ⟨v0, vs0, d0, ds0, p0, q0, hargs, rfl, rfl, h0, r0⟩ := trodAll_cons hA
  obtain ⟨rfl, rfl, rfl⟩ := trodAll_nil r0
  obtain rfl : args = #[v0] := by cases args; simp_all
  obtain ⟨rfl, rfl⟩ := trodVars_none hV
  have k0 := h0
  have lt0 : ∀ x ∈ p0, x.block < W.heap.size := by obtain ⟨m, hm⟩ := k0; exact DataW.trod_lt m _ _ _ hm
  obtain ⟨cs0, rfl, _⟩ := okWide_struct Try.underlying48 (hval 0 48 v0 rfl rfl)
  obtain ⟨fuel0, hf0⟩ := h0
  obtain ⟨x0a, x0b, x0s, B0, m0, e0, ds0, hcs0, hxs0, ⟨hlen0, hrd0⟩, hcm0⟩ := open_Packer hf0
  obtain ⟨cs0⟩ := cs0
  simp only [Value.cells] at hcs0
  subst hcs0
  clear hA0 hval0
  refine (fnExactFillPacker_walk (w := W) x0a x0b x0s B0 m0 e0 ds0 hxs0 hlen0 hrd0 hcm0).mono fun e W' ⟨he, bel⟩ => ?_
  subst he
  exact ⟨_, rfl, _, _, _, [], _, [], hW', trodAll_mk1 (shut_bool Try.underlying4 _), (trodAll_cons_mk (Below.trod laidOut (by kernel_rfl) (of_decide_eq_true (by kernel_rfl)) k0 bel lt0) trodAll_mk0), rfl, bel.frame _, fun h => by cases h⟩
theorem proved : Rows.FnExactFillPackerSaid :=
  OpenClaim.holds_of_wide 4 Try.f4 rfl rfl rfl rfl rfl rfl rfl ⟨rfl, rfl, rfl, rfl, rfl⟩ rfl rfl rfl rfl rfl (by kernel_rfl) Try.func4 (by kernel_rfl)
    (of_decide_eq_true (by kernel_rfl)) (by unfold Func.isWrapper; first | (rw [if_pos (by decide +kernel)]; kernel_rfl) | (rw [if_neg (by decide +kernel)]; exact ⟨rfl, rfl⟩))
    (fun os started H enc _ => lifted os started H enc)
end fnExactFillPackerDone
end Go.Proofs.Ytmcgmiapbdoocaa
