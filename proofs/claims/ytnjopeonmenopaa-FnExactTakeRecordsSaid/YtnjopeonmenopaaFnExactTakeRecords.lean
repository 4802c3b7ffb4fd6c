/- For every recorder and every number the program's TakeRecords returns what the reference's returns, leaves its argument as it was and shares no memory. No condition. -/
import Derived.Test.YtnjopeonmenopaaTakeRec
import Derived.Test.YtnjopeonmenopaaRecMark
namespace Go.Proofs.Ytnjopeonmenopaa
open Go.RowKit

set_option maxRecDepth 100000 in
set_option maxHeartbeats 8000000 in
theorem fnExactTakeRecords_walk {w : World} (a : Int) (A : Option Addr) (n cp : Nat) (zs : List ERecord) (B : Option Addr) (m dp : Nat) (ds : List Int) (_ha : I64 a) (hn : zs.length = n) (hnc_z : n ≤ cp) (hcm : cp ≤ maxLen) (hr_z : Rd w 4 A n (zs.flatMap cRecord)) (hwf : ∀ r ∈ zs, wfRecord r) (hm : ds.length = m) (hnc_d : m ≤ dp) (hdm : dp ≤ maxLen) (hr_d : Rd w 1 B m (ds.flatMap cI)) (_hwd : ∀ r ∈ ds, I64 r) (k : Int) (_hk : I64 k) :
    Calls Try.prog 13 #[.agg #[.int .i64 a, .slice A n cp, .slice B m dp], .int .i64 k] w fun e w' => e = .returned (.bool true) ∧ Below w.heap.size w w' := by
  subst hn
  subst hm
  unfold maxLen at hcm hdm
  have hT : ∀ z ∈ zs, Txt z.f3 := fun z hz => (hwf z hz).2.2.2
  have hLl : (trL a k zs ds).length ≤ zs.length := by unfold trL; split <;> simp
  have hGl : (trG a k zs ds).length ≤ zs.length := by unfold trG; split <;> simp <;> omega
  refine enter 117 Try.func13 rfl rfl (Nat.le_of_ble_eq_true rfl) ?_
  intro a0 hs hargs
  have s0 : a0.eval (.tmp 0) = .agg #[.int .i64 a, .slice A zs.length cp, .slice B ds.length dp] := hargs 0 _ rfl
  have s1 : a0.eval (.tmp 1) = .int .i64 k := hargs 1 _ rfl
  clear hargs
  have hB : Below w.heap.size w w := Below.refl _ _
  refine wp_seq_k fun K1 hK1 => ?_
  refine wp_region_lit ?_
  refine q_val rfl rfl ?_
  refine g_box rfl s0 rfl ?_
  intro q2 w3 N_q2
  have g_q2 := Nat.le_trans hB.size N_q2.lo
  replace hB := below_new hB hB.size N_q2
  have h_q2 := N_q2.here
  clear N_q2
  intro a1 p1
  have s2 : a1.eval (.tmp 2) = .pointer (some ⟨q2, 0, none⟩) := p1.at hs (by decide)
  replace hs := p1.st hs
  refine q_val rfl rfl ?_
  refine g_assign rfl rfl ?_
  intro a2 p2
  have s4 : a2.eval (.tmp 4) = .bool false := p2.at hs (by decide)
  replace hs := p2.st hs
  refine wpList_nil ?_
  replace s0 : a2.eval (.tmp 0) = .agg #[.int .i64 a, .slice A zs.length cp, .slice B ds.length dp] := ((p2.ne rfl).trans (p1.ne rfl)).trans s0
  replace s1 : a2.eval (.tmp 1) = .int .i64 k := ((p2.ne rfl).trans (p1.ne rfl)).trans s1
  replace s2 : a2.eval (.tmp 2) = .pointer (some ⟨q2, 0, none⟩) := (p2.ne rfl).trans s2
  refine hK1 _ _ ?_
  clear hK1
  refine wp_seq_k fun K4 hK4 => ?_
  refine wp_region_lit ?_
  refine q_val rfl rfl ?_
  refine g_assign rfl rfl ?_
  intro a3 p3
  have s5 : a3.eval (.tmp 5) = .int .i64 1048576 := p3.at hs (by decide)
  replace hs := p3.st hs
  refine wpList_nil ?_
  replace s0 : a3.eval (.tmp 0) = .agg #[.int .i64 a, .slice A zs.length cp, .slice B ds.length dp] := (p3.ne rfl).trans s0
  replace s1 : a3.eval (.tmp 1) = .int .i64 k := (p3.ne rfl).trans s1
  replace s2 : a3.eval (.tmp 2) = .pointer (some ⟨q2, 0, none⟩) := (p3.ne rfl).trans s2
  replace s4 : a3.eval (.tmp 4) = .bool false := (p3.ne rfl).trans s4
  refine hK4 _ _ ?_
  clear hK4
  refine wp_seq_k fun K5 hK5 => ?_
  refine wp_region_lit ?_
  refine q_val rfl rfl ?_
  refine g_loadB rfl s2 Try.isAgg61 Try.sizeOf61 rfl h_q2 ?_
  intro a4 p4
  have s16 : a4.eval (.tmp 16) = .agg #[.int .i64 a, .slice A zs.length cp, .slice B ds.length dp] := p4.at hs (by decide)
  replace hs := p4.st hs
  refine q_val rfl rfl ?_
  refine g_move rfl ((p4.ne rfl).trans s5) ?_
  intro a5 p5
  have s17 : a5.eval (.tmp 17) = .int .i64 1048576 := p5.at hs (by decide)
  replace hs := p5.st hs
  refine q_val rfl rfl ?_
  refine g_call rfl rfl Try.call40 (arr2 ((p5.ne rfl).trans s16) s17) ?_
  refine (szRecorder_any _ _ _ _ _ _ _ zs _ _ rfl (by omega) (by omega) (by omega) (by omega) hT (hr_z.below hB)).mono ?_
  rintro e w7 ⟨q, rfl, hq0, hq1, hq2, hb6⟩
  refine ⟨_, rfl, ?_⟩
  replace h_q2 := keep_below h_q2 hb6
  replace hB := hB.trans (hb6.mono hB.size)
  clear hb6
  intro a6 p6
  have s18 : a6.eval (.tmp 18) = .int .i64 q := p6.at hs (by decide)
  replace hs := p6.st hs
  refine q_val rfl rfl ?_
  refine g_assign rfl s18 ?_
  intro a7 p7
  have s5 : a7.eval (.tmp 5) = .int .i64 q := p7.at hs (by decide)
  replace hs := p7.st hs
  refine wpList_nil ?_
  replace s0 : a7.eval (.tmp 0) = .agg #[.int .i64 a, .slice A zs.length cp, .slice B ds.length dp] := ((p7.ne rfl).trans ((p6.ne rfl).trans ((p5.ne rfl).trans (p4.ne rfl)))).trans s0
  replace s1 : a7.eval (.tmp 1) = .int .i64 k := ((p7.ne rfl).trans ((p6.ne rfl).trans ((p5.ne rfl).trans (p4.ne rfl)))).trans s1
  replace s2 : a7.eval (.tmp 2) = .pointer (some ⟨q2, 0, none⟩) := ((p7.ne rfl).trans ((p6.ne rfl).trans ((p5.ne rfl).trans (p4.ne rfl)))).trans s2
  replace s4 : a7.eval (.tmp 4) = .bool false := ((p7.ne rfl).trans ((p6.ne rfl).trans ((p5.ne rfl).trans (p4.ne rfl)))).trans s4
  refine hK5 _ _ ?_
  clear hK5
  refine wp_seq_k fun K8 hK8 => ?_
  refine wp_seq_k fun K9 hK9 => ?_
  refine wp_region_lit ?_
  refine q_val rfl rfl ?_
  refine g_move rfl s5 ?_
  intro a8 p8
  have s19 : a8.eval (.tmp 19) = .int .i64 q := p8.at hs (by decide)
  replace hs := p8.st hs
  refine q_val rfl rfl ?_
  refine g_lss rfl s19 rfl ?_
  intro a9 p9
  have s20 : a9.eval (.tmp 20) = .bool (decide (q < 0)) := p9.at hs (by decide)
  replace hs := p9.st hs
  refine wpList_nil ?_
  replace s0 : a9.eval (.tmp 0) = .agg #[.int .i64 a, .slice A zs.length cp, .slice B ds.length dp] := ((p9.ne rfl).trans (p8.ne rfl)).trans s0
  replace s1 : a9.eval (.tmp 1) = .int .i64 k := ((p9.ne rfl).trans (p8.ne rfl)).trans s1
  replace s2 : a9.eval (.tmp 2) = .pointer (some ⟨q2, 0, none⟩) := ((p9.ne rfl).trans (p8.ne rfl)).trans s2
  replace s4 : a9.eval (.tmp 4) = .bool false := ((p9.ne rfl).trans (p8.ne rfl)).trans s4
  replace s5 : a9.eval (.tmp 5) = .int .i64 q := ((p9.ne rfl).trans (p8.ne rfl)).trans s5
  refine hK9 _ _ ?_
  clear hK9
  by_cases hc10 : q < 0
  · replace s20 := s20.trans (congrArg Value.bool (decide_eq_true hc10))
    replace s20 : a9.eval (.tmp 20) = .bool true := s20
    refine c_true s20 ?_
    refine wp_seq_k fun K11 hK11 => ?_
    refine wp_region_lit ?_
    refine q_val rfl rfl ?_
    refine g_assign rfl rfl ?_
    intro a10 p10
    have s4 : a10.eval (.tmp 4) = .bool true := p10.at hs (by decide)
    replace hs := p10.st hs
    refine wpList_nil ?_
    replace s0 : a10.eval (.tmp 0) = .agg #[.int .i64 a, .slice A zs.length cp, .slice B ds.length dp] := (p10.ne rfl).trans s0
    replace s1 : a10.eval (.tmp 1) = .int .i64 k := (p10.ne rfl).trans s1
    replace s2 : a10.eval (.tmp 2) = .pointer (some ⟨q2, 0, none⟩) := (p10.ne rfl).trans s2
    replace s5 : a10.eval (.tmp 5) = .int .i64 q := (p10.ne rfl).trans s5
    replace s20 : a10.eval (.tmp 20) = .bool true := (p10.ne rfl).trans s20
    refine hK11 _ _ ?_
    clear hK11
    refine wp_ret ?_
    try dsimp only [Exit.then, Exit.inBlock]
    refine ret1 hs Try.results13 (res_tmp s4) ?_
    exact ⟨rfl, hB⟩
  · replace s20 := s20.trans (congrArg Value.bool (decide_eq_false hc10))
    replace s20 : a9.eval (.tmp 20) = .bool false := s20
    refine c_false s20 ?_
    refine wp_skip ?_
    refine hK8 _ _ ?_
    clear hK8
    refine wp_seq_k fun K12 hK12 => ?_
    obtain ⟨hm1, hm2⟩ : zs.length ≤ 1048576 ∧ ds.length ≤ 1048576 := by have := hq2 (by omega); omega
    refine wp_region_lit ?_
    refine q_val rfl rfl ?_
    refine g_loadB rfl s2 Try.isAgg61 Try.sizeOf61 rfl h_q2 ?_
    intro a10 p10
    have s22 : a10.eval (.tmp 22) = .agg #[.int .i64 a, .slice A zs.length cp, .slice B ds.length dp] := p10.at hs (by decide)
    replace hs := p10.st hs
    refine q_val rfl rfl ?_
    refine g_call rfl rfl Try.call42 (arr1 s22) ?_
    refine (toRecorder_any _ _ _ _ _ _ _ zs ds _ rfl hm1 (hr_z.below hB) rfl hm2 (hr_d.below hB)).mono ?_
    rintro e w14 ⟨g13, i13, rfl, o_z13, o_y13, _, hb13⟩
    refine ⟨_, rfl, ?_⟩
    have m_z13_y13 := own_ne_type o_z13 o_y13 (by decide)
    have m_y13_z13 := ne_row_symm m_z13_y13
    have d_z13_q2 := own_ne_box o_z13 (lt_of_block h_q2)
    have g_z13 : ∀ b, ((some ⟨g13, 0, none⟩) : Option Addr).map (·.block) = some b → w.heap.size ≤ b := fun b h => Nat.le_trans hB.size (own_row o_z13 b h).1
    replace o_z13 := own_base (base := w.heap.size) o_z13 hB.size
    have d_y13_q2 := own_ne_box o_y13 (lt_of_block h_q2)
    have g_y13 : ∀ b, ((some ⟨i13, 0, none⟩) : Option Addr).map (·.block) = some b → w.heap.size ≤ b := fun b h => Nat.le_trans hB.size (own_row o_y13 b h).1
    replace o_y13 := own_base (base := w.heap.size) o_y13 hB.size
    replace h_q2 := keep_below h_q2 hb13
    replace hB := hB.trans (hb13.mono hB.size)
    clear hb13
    intro a11 p11
    have s23 : a11.eval (.tmp 23) = .agg #[.int .i64 a, .slice (some ⟨g13, 0, none⟩) zs.length zs.length, .slice (some ⟨i13, 0, none⟩) ds.length ds.length] := p11.at hs (by decide)
    replace hs := p11.st hs
    refine q_val rfl rfl ?_
    refine g_move rfl (((p11.ne rfl).trans (p10.ne rfl)).trans s1) ?_
    intro a12 p12
    have s24 : a12.eval (.tmp 24) = .int .i64 k := p12.at hs (by decide)
    replace hs := p12.st hs
    refine q_val rfl rfl ?_
    refine g_call rfl rfl Try.call45 (arr2 ((p12.ne rfl).trans s23) s24) ?_
    refine (sTakeRecords_any _ _ _ _ _ _ _ _ zs ds _ rfl hm1 (own_cap o_z13).1 (by omega) hT (Rd.of_own o_z13) (own_nil o_z13) rfl hm2 (own_nil o_y13) (Rd.of_own o_y13)).mono ?_
    rintro e w16 ⟨_, rfl, ⟨A15, c15, B15, d15, G15, e15, rfl, o_z15, o_y15, o_x15, hm15⟩, hb15⟩
    refine ⟨_, rfl, ?_⟩
    have m_z15_y15 := own_ne_type o_z15 o_y15 (by decide)
    have m_y15_z15 := ne_row_symm m_z15_y15
    have m_z15_x15 := hm15
    have m_x15_z15 := ne_row_symm m_z15_x15
    have m_y15_x15 := own_ne_type o_y15 o_x15 (by decide)
    have m_x15_y15 := ne_row_symm m_y15_x15
    have d_z15_q2 := own_ne_box o_z15 (lt_of_block h_q2)
    have m_z13_z15 := own_ne_row o_z13 o_z15 (Nat.le_refl _)
    have m_z15_z13 := ne_row_symm m_z13_z15
    have m_y13_z15 := own_ne_row o_y13 o_z15 (Nat.le_refl _)
    have m_z15_y13 := ne_row_symm m_y13_z15
    have g_z15 : ∀ b, (A15 : Option Addr).map (·.block) = some b → w.heap.size ≤ b := fun b h => Nat.le_trans hB.size (own_row o_z15 b h).1
    replace o_z15 := own_base (base := w.heap.size) o_z15 hB.size
    have d_y15_q2 := own_ne_box o_y15 (lt_of_block h_q2)
    have m_z13_y15 := own_ne_row o_z13 o_y15 (Nat.le_refl _)
    have m_y15_z13 := ne_row_symm m_z13_y15
    have m_y13_y15 := own_ne_row o_y13 o_y15 (Nat.le_refl _)
    have m_y15_y13 := ne_row_symm m_y13_y15
    have g_y15 : ∀ b, (B15 : Option Addr).map (·.block) = some b → w.heap.size ≤ b := fun b h => Nat.le_trans hB.size (own_row o_y15 b h).1
    replace o_y15 := own_base (base := w.heap.size) o_y15 hB.size
    have d_x15_q2 := own_ne_box o_x15 (lt_of_block h_q2)
    have m_z13_x15 := own_ne_row o_z13 o_x15 (Nat.le_refl _)
    have m_x15_z13 := ne_row_symm m_z13_x15
    have m_y13_x15 := own_ne_row o_y13 o_x15 (Nat.le_refl _)
    have m_x15_y13 := ne_row_symm m_y13_x15
    have g_x15 : ∀ b, (G15 : Option Addr).map (·.block) = some b → w.heap.size ≤ b := fun b h => Nat.le_trans hB.size (own_row o_x15 b h).1
    replace o_x15 := own_base (base := w.heap.size) o_x15 hB.size
    replace h_q2 := keep_below h_q2 hb15
    replace o_z13 := own_below o_z13 hb15
    replace o_y13 := own_below o_y13 hb15
    replace hB := hB.trans (hb15.mono hB.size)
    clear hb15
    intro a13 p13
    have s25 : a13.eval (.tmp 25) = .tuple #[.agg #[.int .i64 a, .slice A15 ((trL a k zs ds).length) c15, .slice B15 ds.length d15], .slice G15 ((trG a k zs ds).length) e15] := p13.at hs (by decide)
    replace hs := p13.st hs
    refine q_val rfl rfl ?_
    refine g_move rfl s25 ?_
    intro a14 p14
    have s21 : a14.eval (.tmp 21) = .tuple #[.agg #[.int .i64 a, .slice A15 ((trL a k zs ds).length) c15, .slice B15 ds.length d15], .slice G15 ((trG a k zs ds).length) e15] := p14.at hs (by decide)
    replace hs := p14.st hs
    refine q_val rfl rfl ?_
    refine g_extract rfl s21 rfl ?_
    intro a15 p15
    have s26 : a15.eval (.tmp 26) = .agg #[.int .i64 a, .slice A15 ((trL a k zs ds).length) c15, .slice B15 ds.length d15] := p15.at hs (by decide)
    replace hs := p15.st hs
    refine q_val rfl rfl ?_
    refine g_extract rfl ((p15.ne rfl).trans s21) rfl ?_
    intro a16 p16
    have s27 : a16.eval (.tmp 27) = .slice G15 ((trG a k zs ds).length) e15 := p16.at hs (by decide)
    replace hs := p16.st hs
    refine q_val rfl rfl ?_
    refine g_alloc rfl Try.zeroValue50 rfl ?_
    intro q17 w18 N_q17
    have n_q2_q17 := N_q17.ne ⟨lt_of_block h_q2⟩
    have n_q17_q2 := n_q2_q17.symm
    have d_z13_q17 := own_ne_new o_z13 N_q17
    have d_y13_q17 := own_ne_new o_y13 N_q17
    have d_z15_q17 := own_ne_new o_z15 N_q17
    have d_y15_q17 := own_ne_new o_y15 N_q17
    have d_x15_q17 := own_ne_new o_x15 N_q17
    have g_q17 := Nat.le_trans hB.size N_q17.lo
    replace h_q2 := keep_below h_q2 N_q17.below
    replace o_z13 := own_below o_z13 N_q17.below
    replace o_y13 := own_below o_y13 N_q17.below
    replace o_z15 := own_below o_z15 N_q17.below
    replace o_y15 := own_below o_y15 N_q17.below
    replace o_x15 := own_below o_x15 N_q17.below
    replace hB := below_new hB hB.size N_q17
    have h_q17 := N_q17.here
    clear N_q17
    intro a17 p17
    have s6 : a17.eval (.tmp 6) = .pointer (some ⟨q17, 0, none⟩) := p17.at hs (by decide)
    replace hs := p17.st hs
    refine q_eff rfl rfl ?_
    refine g_storeB rfl s6 (((p17.ne rfl).trans (p16.ne rfl)).trans s26) Try.sizeOf50 rfl rfl h_q17 rfl ?_
    intro w19 W_w19
    replace h_q2 := keep_wrote h_q2 W_w19 n_q17_q2
    replace h_q17 := W_w19.here
    replace o_z13 := own_wrote o_z13 W_w19 d_z13_q17
    replace o_y13 := own_wrote o_y13 W_w19 d_y13_q17
    replace o_z15 := own_wrote o_z15 W_w19 d_z15_q17
    replace o_y15 := own_wrote o_y15 W_w19 d_y15_q17
    replace o_x15 := own_wrote o_x15 W_w19 d_x15_q17
    replace hB := below_wrote hB hB.size W_w19 g_q17
    clear W_w19
    refine q_val rfl rfl ?_
    refine g_assign rfl ((p17.ne rfl).trans s27) ?_
    intro a18 p18
    have s7 : a18.eval (.tmp 7) = .slice G15 ((trG a k zs ds).length) e15 := p18.at hs (by decide)
    replace hs := p18.st hs
    refine wpList_nil ?_
    replace s0 : a18.eval (.tmp 0) = .agg #[.int .i64 a, .slice A zs.length cp, .slice B ds.length dp] := ((p18.ne rfl).trans ((p17.ne rfl).trans ((p16.ne rfl).trans ((p15.ne rfl).trans ((p14.ne rfl).trans ((p13.ne rfl).trans ((p12.ne rfl).trans ((p11.ne rfl).trans (p10.ne rfl))))))))).trans s0
    replace s1 : a18.eval (.tmp 1) = .int .i64 k := ((p18.ne rfl).trans ((p17.ne rfl).trans ((p16.ne rfl).trans ((p15.ne rfl).trans ((p14.ne rfl).trans ((p13.ne rfl).trans ((p12.ne rfl).trans ((p11.ne rfl).trans (p10.ne rfl))))))))).trans s1
    replace s2 : a18.eval (.tmp 2) = .pointer (some ⟨q2, 0, none⟩) := ((p18.ne rfl).trans ((p17.ne rfl).trans ((p16.ne rfl).trans ((p15.ne rfl).trans ((p14.ne rfl).trans ((p13.ne rfl).trans ((p12.ne rfl).trans ((p11.ne rfl).trans (p10.ne rfl))))))))).trans s2
    replace s4 : a18.eval (.tmp 4) = .bool false := ((p18.ne rfl).trans ((p17.ne rfl).trans ((p16.ne rfl).trans ((p15.ne rfl).trans ((p14.ne rfl).trans ((p13.ne rfl).trans ((p12.ne rfl).trans ((p11.ne rfl).trans (p10.ne rfl))))))))).trans s4
    replace s5 : a18.eval (.tmp 5) = .int .i64 q := ((p18.ne rfl).trans ((p17.ne rfl).trans ((p16.ne rfl).trans ((p15.ne rfl).trans ((p14.ne rfl).trans ((p13.ne rfl).trans ((p12.ne rfl).trans ((p11.ne rfl).trans (p10.ne rfl))))))))).trans s5
    replace s20 : a18.eval (.tmp 20) = .bool false := ((p18.ne rfl).trans ((p17.ne rfl).trans ((p16.ne rfl).trans ((p15.ne rfl).trans ((p14.ne rfl).trans ((p13.ne rfl).trans ((p12.ne rfl).trans ((p11.ne rfl).trans (p10.ne rfl))))))))).trans s20
    replace s6 : a18.eval (.tmp 6) = .pointer (some ⟨q17, 0, none⟩) := (p18.ne rfl).trans s6
    refine hK12 _ _ ?_
    clear hK12
    refine wp_seq_k fun K20 hK20 => ?_
    refine wp_region_lit ?_
    refine q_val rfl rfl ?_
    refine g_loadB rfl s2 Try.isAgg61 Try.sizeOf61 rfl h_q2 ?_
    intro a19 p19
    have s28 : a19.eval (.tmp 28) = .agg #[.int .i64 a, .slice A zs.length cp, .slice B ds.length dp] := p19.at hs (by decide)
    replace hs := p19.st hs
    refine q_val rfl rfl ?_
    refine g_call rfl rfl Try.call42 (arr1 s28) ?_
    refine (toRecorder_any _ _ _ _ _ _ _ zs ds _ rfl hm1 (hr_z.below hB) rfl hm2 (hr_d.below hB)).mono ?_
    rintro e w22 ⟨g21, i21, rfl, o_z21, o_y21, _, hb21⟩
    refine ⟨_, rfl, ?_⟩
    have m_z21_y21 := own_ne_type o_z21 o_y21 (by decide)
    have m_y21_z21 := ne_row_symm m_z21_y21
    have d_z21_q2 := own_ne_box o_z21 (lt_of_block h_q2)
    have d_z21_q17 := own_ne_box o_z21 (lt_of_block h_q17)
    have m_z13_z21 := own_ne_row o_z13 o_z21 (Nat.le_refl _)
    have m_z21_z13 := ne_row_symm m_z13_z21
    have m_y13_z21 := own_ne_row o_y13 o_z21 (Nat.le_refl _)
    have m_z21_y13 := ne_row_symm m_y13_z21
    have m_z15_z21 := own_ne_row o_z15 o_z21 (Nat.le_refl _)
    have m_z21_z15 := ne_row_symm m_z15_z21
    have m_y15_z21 := own_ne_row o_y15 o_z21 (Nat.le_refl _)
    have m_z21_y15 := ne_row_symm m_y15_z21
    have m_x15_z21 := own_ne_row o_x15 o_z21 (Nat.le_refl _)
    have m_z21_x15 := ne_row_symm m_x15_z21
    have g_z21 : ∀ b, ((some ⟨g21, 0, none⟩) : Option Addr).map (·.block) = some b → w.heap.size ≤ b := fun b h => Nat.le_trans hB.size (own_row o_z21 b h).1
    replace o_z21 := own_base (base := w.heap.size) o_z21 hB.size
    have d_y21_q2 := own_ne_box o_y21 (lt_of_block h_q2)
    have d_y21_q17 := own_ne_box o_y21 (lt_of_block h_q17)
    have m_z13_y21 := own_ne_row o_z13 o_y21 (Nat.le_refl _)
    have m_y21_z13 := ne_row_symm m_z13_y21
    have m_y13_y21 := own_ne_row o_y13 o_y21 (Nat.le_refl _)
    have m_y21_y13 := ne_row_symm m_y13_y21
    have m_z15_y21 := own_ne_row o_z15 o_y21 (Nat.le_refl _)
    have m_y21_z15 := ne_row_symm m_z15_y21
    have m_y15_y21 := own_ne_row o_y15 o_y21 (Nat.le_refl _)
    have m_y21_y15 := ne_row_symm m_y15_y21
    have m_x15_y21 := own_ne_row o_x15 o_y21 (Nat.le_refl _)
    have m_y21_x15 := ne_row_symm m_x15_y21
    have g_y21 : ∀ b, ((some ⟨i21, 0, none⟩) : Option Addr).map (·.block) = some b → w.heap.size ≤ b := fun b h => Nat.le_trans hB.size (own_row o_y21 b h).1
    replace o_y21 := own_base (base := w.heap.size) o_y21 hB.size
    replace h_q2 := keep_below h_q2 hb21
    replace h_q17 := keep_below h_q17 hb21
    replace o_z13 := own_below o_z13 hb21
    replace o_y13 := own_below o_y13 hb21
    replace o_z15 := own_below o_z15 hb21
    replace o_y15 := own_below o_y15 hb21
    replace o_x15 := own_below o_x15 hb21
    replace hB := hB.trans (hb21.mono hB.size)
    clear hb21
    intro a20 p20
    have s29 : a20.eval (.tmp 29) = .agg #[.int .i64 a, .slice (some ⟨g21, 0, none⟩) zs.length zs.length, .slice (some ⟨i21, 0, none⟩) ds.length ds.length] := p20.at hs (by decide)
    replace hs := p20.st hs
    refine q_val rfl rfl ?_
    refine g_alloc rfl Try.zeroValue50 rfl ?_
    intro q23 w24 N_q23
    have n_q2_q23 := N_q23.ne ⟨lt_of_block h_q2⟩
    have n_q23_q2 := n_q2_q23.symm
    have n_q17_q23 := N_q23.ne ⟨lt_of_block h_q17⟩
    have n_q23_q17 := n_q17_q23.symm
    have d_z13_q23 := own_ne_new o_z13 N_q23
    have d_y13_q23 := own_ne_new o_y13 N_q23
    have d_z15_q23 := own_ne_new o_z15 N_q23
    have d_y15_q23 := own_ne_new o_y15 N_q23
    have d_x15_q23 := own_ne_new o_x15 N_q23
    have d_z21_q23 := own_ne_new o_z21 N_q23
    have d_y21_q23 := own_ne_new o_y21 N_q23
    have g_q23 := Nat.le_trans hB.size N_q23.lo
    replace h_q2 := keep_below h_q2 N_q23.below
    replace h_q17 := keep_below h_q17 N_q23.below
    replace o_z13 := own_below o_z13 N_q23.below
    replace o_y13 := own_below o_y13 N_q23.below
    replace o_z15 := own_below o_z15 N_q23.below
    replace o_y15 := own_below o_y15 N_q23.below
    replace o_x15 := own_below o_x15 N_q23.below
    replace o_z21 := own_below o_z21 N_q23.below
    replace o_y21 := own_below o_y21 N_q23.below
    replace hB := below_new hB hB.size N_q23
    have h_q23 := N_q23.here
    clear N_q23
    intro a21 p21
    have s8 : a21.eval (.tmp 8) = .pointer (some ⟨q23, 0, none⟩) := p21.at hs (by decide)
    replace hs := p21.st hs
    refine q_eff rfl rfl ?_
    refine g_storeB rfl s8 ((p21.ne rfl).trans s29) Try.sizeOf50 rfl rfl h_q23 rfl ?_
    intro w25 W_w25
    replace h_q2 := keep_wrote h_q2 W_w25 n_q23_q2
    replace h_q17 := keep_wrote h_q17 W_w25 n_q23_q17
    replace h_q23 := W_w25.here
    replace o_z13 := own_wrote o_z13 W_w25 d_z13_q23
    replace o_y13 := own_wrote o_y13 W_w25 d_y13_q23
    replace o_z15 := own_wrote o_z15 W_w25 d_z15_q23
    replace o_y15 := own_wrote o_y15 W_w25 d_y15_q23
    replace o_x15 := own_wrote o_x15 W_w25 d_x15_q23
    replace o_z21 := own_wrote o_z21 W_w25 d_z21_q23
    replace o_y21 := own_wrote o_y21 W_w25 d_y21_q23
    replace hB := below_wrote hB hB.size W_w25 g_q23
    clear W_w25
    refine wpList_nil ?_
    replace s0 : a21.eval (.tmp 0) = .agg #[.int .i64 a, .slice A zs.length cp, .slice B ds.length dp] := ((p21.ne rfl).trans ((p20.ne rfl).trans (p19.ne rfl))).trans s0
    replace s1 : a21.eval (.tmp 1) = .int .i64 k := ((p21.ne rfl).trans ((p20.ne rfl).trans (p19.ne rfl))).trans s1
    replace s2 : a21.eval (.tmp 2) = .pointer (some ⟨q2, 0, none⟩) := ((p21.ne rfl).trans ((p20.ne rfl).trans (p19.ne rfl))).trans s2
    replace s4 : a21.eval (.tmp 4) = .bool false := ((p21.ne rfl).trans ((p20.ne rfl).trans (p19.ne rfl))).trans s4
    replace s5 : a21.eval (.tmp 5) = .int .i64 q := ((p21.ne rfl).trans ((p20.ne rfl).trans (p19.ne rfl))).trans s5
    replace s20 : a21.eval (.tmp 20) = .bool false := ((p21.ne rfl).trans ((p20.ne rfl).trans (p19.ne rfl))).trans s20
    replace s6 : a21.eval (.tmp 6) = .pointer (some ⟨q17, 0, none⟩) := ((p21.ne rfl).trans ((p20.ne rfl).trans (p19.ne rfl))).trans s6
    replace s7 : a21.eval (.tmp 7) = .slice G15 ((trG a k zs ds).length) e15 := ((p21.ne rfl).trans ((p20.ne rfl).trans (p19.ne rfl))).trans s7
    refine hK20 _ _ ?_
    clear hK20
    refine wp_seq_k fun K26 hK26 => ?_
    refine wp_region_lit ?_
    refine q_val rfl rfl ?_
    refine g_loadB rfl s8 Try.isAgg50 Try.sizeOf50 rfl h_q23 ?_
    intro a22 p22
    have s31 : a22.eval (.tmp 31) = .agg #[.int .i64 a, .slice (some ⟨g21, 0, none⟩) zs.length zs.length, .slice (some ⟨i21, 0, none⟩) ds.length ds.length] := p22.at hs (by decide)
    replace hs := p22.st hs
    refine q_val rfl rfl ?_
    refine g_move rfl ((p22.ne rfl).trans s1) ?_
    intro a23 p23
    have s32 : a23.eval (.tmp 32) = .int .i64 k := p23.at hs (by decide)
    replace hs := p23.st hs
    refine q_val rfl rfl ?_
    refine g_call rfl rfl Try.call37 (arr2 ((p23.ne rfl).trans s31) s32) ?_
    refine (takeRecords_any _ _ _ _ _ _ _ _ zs ds _ rfl hm1 (own_cap o_z21).1 (by omega) hT (Rd.of_own o_z21) (own_nil o_z21) rfl hm2 (own_nil o_y21) (Rd.of_own o_y21)).mono ?_
    rintro e w28 ⟨_, rfl, ⟨A27, c27, B27, d27, G27, e27, rfl, o_z27, o_y27, o_x27, hm27⟩, hb27⟩
    refine ⟨_, rfl, ?_⟩
    have m_z27_y27 := own_ne_type o_z27 o_y27 (by decide)
    have m_y27_z27 := ne_row_symm m_z27_y27
    have m_z27_x27 := hm27
    have m_x27_z27 := ne_row_symm m_z27_x27
    have m_y27_x27 := own_ne_type o_y27 o_x27 (by decide)
    have m_x27_y27 := ne_row_symm m_y27_x27
    have d_z27_q2 := own_ne_box o_z27 (lt_of_block h_q2)
    have d_z27_q17 := own_ne_box o_z27 (lt_of_block h_q17)
    have d_z27_q23 := own_ne_box o_z27 (lt_of_block h_q23)
    have m_z13_z27 := own_ne_row o_z13 o_z27 (Nat.le_refl _)
    have m_z27_z13 := ne_row_symm m_z13_z27
    have m_y13_z27 := own_ne_row o_y13 o_z27 (Nat.le_refl _)
    have m_z27_y13 := ne_row_symm m_y13_z27
    have m_z15_z27 := own_ne_row o_z15 o_z27 (Nat.le_refl _)
    have m_z27_z15 := ne_row_symm m_z15_z27
    have m_y15_z27 := own_ne_row o_y15 o_z27 (Nat.le_refl _)
    have m_z27_y15 := ne_row_symm m_y15_z27
    have m_x15_z27 := own_ne_row o_x15 o_z27 (Nat.le_refl _)
    have m_z27_x15 := ne_row_symm m_x15_z27
    have m_z21_z27 := own_ne_row o_z21 o_z27 (Nat.le_refl _)
    have m_z27_z21 := ne_row_symm m_z21_z27
    have m_y21_z27 := own_ne_row o_y21 o_z27 (Nat.le_refl _)
    have m_z27_y21 := ne_row_symm m_y21_z27
    have g_z27 : ∀ b, (A27 : Option Addr).map (·.block) = some b → w.heap.size ≤ b := fun b h => Nat.le_trans hB.size (own_row o_z27 b h).1
    replace o_z27 := own_base (base := w.heap.size) o_z27 hB.size
    have d_y27_q2 := own_ne_box o_y27 (lt_of_block h_q2)
    have d_y27_q17 := own_ne_box o_y27 (lt_of_block h_q17)
    have d_y27_q23 := own_ne_box o_y27 (lt_of_block h_q23)
    have m_z13_y27 := own_ne_row o_z13 o_y27 (Nat.le_refl _)
    have m_y27_z13 := ne_row_symm m_z13_y27
    have m_y13_y27 := own_ne_row o_y13 o_y27 (Nat.le_refl _)
    have m_y27_y13 := ne_row_symm m_y13_y27
    have m_z15_y27 := own_ne_row o_z15 o_y27 (Nat.le_refl _)
    have m_y27_z15 := ne_row_symm m_z15_y27
    have m_y15_y27 := own_ne_row o_y15 o_y27 (Nat.le_refl _)
    have m_y27_y15 := ne_row_symm m_y15_y27
    have m_x15_y27 := own_ne_row o_x15 o_y27 (Nat.le_refl _)
    have m_y27_x15 := ne_row_symm m_x15_y27
    have m_z21_y27 := own_ne_row o_z21 o_y27 (Nat.le_refl _)
    have m_y27_z21 := ne_row_symm m_z21_y27
    have m_y21_y27 := own_ne_row o_y21 o_y27 (Nat.le_refl _)
    have m_y27_y21 := ne_row_symm m_y21_y27
    have g_y27 : ∀ b, (B27 : Option Addr).map (·.block) = some b → w.heap.size ≤ b := fun b h => Nat.le_trans hB.size (own_row o_y27 b h).1
    replace o_y27 := own_base (base := w.heap.size) o_y27 hB.size
    have d_x27_q2 := own_ne_box o_x27 (lt_of_block h_q2)
    have d_x27_q17 := own_ne_box o_x27 (lt_of_block h_q17)
    have d_x27_q23 := own_ne_box o_x27 (lt_of_block h_q23)
    have m_z13_x27 := own_ne_row o_z13 o_x27 (Nat.le_refl _)
    have m_x27_z13 := ne_row_symm m_z13_x27
    have m_y13_x27 := own_ne_row o_y13 o_x27 (Nat.le_refl _)
    have m_x27_y13 := ne_row_symm m_y13_x27
    have m_z15_x27 := own_ne_row o_z15 o_x27 (Nat.le_refl _)
    have m_x27_z15 := ne_row_symm m_z15_x27
    have m_y15_x27 := own_ne_row o_y15 o_x27 (Nat.le_refl _)
    have m_x27_y15 := ne_row_symm m_y15_x27
    have m_x15_x27 := own_ne_row o_x15 o_x27 (Nat.le_refl _)
    have m_x27_x15 := ne_row_symm m_x15_x27
    have m_z21_x27 := own_ne_row o_z21 o_x27 (Nat.le_refl _)
    have m_x27_z21 := ne_row_symm m_z21_x27
    have m_y21_x27 := own_ne_row o_y21 o_x27 (Nat.le_refl _)
    have m_x27_y21 := ne_row_symm m_y21_x27
    have g_x27 : ∀ b, (G27 : Option Addr).map (·.block) = some b → w.heap.size ≤ b := fun b h => Nat.le_trans hB.size (own_row o_x27 b h).1
    replace o_x27 := own_base (base := w.heap.size) o_x27 hB.size
    replace h_q2 := keep_below h_q2 hb27
    replace h_q17 := keep_below h_q17 hb27
    replace h_q23 := keep_below h_q23 hb27
    replace o_z13 := own_below o_z13 hb27
    replace o_y13 := own_below o_y13 hb27
    replace o_z15 := own_below o_z15 hb27
    replace o_y15 := own_below o_y15 hb27
    replace o_x15 := own_below o_x15 hb27
    replace o_z21 := own_below o_z21 hb27
    replace o_y21 := own_below o_y21 hb27
    replace hB := hB.trans (hb27.mono hB.size)
    clear hb27
    intro a24 p24
    have s33 : a24.eval (.tmp 33) = .tuple #[.agg #[.int .i64 a, .slice A27 ((trL a k zs ds).length) c27, .slice B27 ds.length d27], .slice G27 ((trG a k zs ds).length) e27] := p24.at hs (by decide)
    replace hs := p24.st hs
    refine q_val rfl rfl ?_
    refine g_move rfl s33 ?_
    intro a25 p25
    have s30 : a25.eval (.tmp 30) = .tuple #[.agg #[.int .i64 a, .slice A27 ((trL a k zs ds).length) c27, .slice B27 ds.length d27], .slice G27 ((trG a k zs ds).length) e27] := p25.at hs (by decide)
    replace hs := p25.st hs
    refine q_val rfl rfl ?_
    refine g_extract rfl s30 rfl ?_
    intro a26 p26
    have s34 : a26.eval (.tmp 34) = .agg #[.int .i64 a, .slice A27 ((trL a k zs ds).length) c27, .slice B27 ds.length d27] := p26.at hs (by decide)
    replace hs := p26.st hs
    refine q_val rfl rfl ?_
    refine g_extract rfl ((p26.ne rfl).trans s30) rfl ?_
    intro a27 p27
    have s35 : a27.eval (.tmp 35) = .slice G27 ((trG a k zs ds).length) e27 := p27.at hs (by decide)
    replace hs := p27.st hs
    refine q_val rfl rfl ?_
    refine g_alloc rfl Try.zeroValue50 rfl ?_
    intro q29 w30 N_q29
    have n_q2_q29 := N_q29.ne ⟨lt_of_block h_q2⟩
    have n_q29_q2 := n_q2_q29.symm
    have n_q17_q29 := N_q29.ne ⟨lt_of_block h_q17⟩
    have n_q29_q17 := n_q17_q29.symm
    have n_q23_q29 := N_q29.ne ⟨lt_of_block h_q23⟩
    have n_q29_q23 := n_q23_q29.symm
    have d_z13_q29 := own_ne_new o_z13 N_q29
    have d_y13_q29 := own_ne_new o_y13 N_q29
    have d_z15_q29 := own_ne_new o_z15 N_q29
    have d_y15_q29 := own_ne_new o_y15 N_q29
    have d_x15_q29 := own_ne_new o_x15 N_q29
    have d_z21_q29 := own_ne_new o_z21 N_q29
    have d_y21_q29 := own_ne_new o_y21 N_q29
    have d_z27_q29 := own_ne_new o_z27 N_q29
    have d_y27_q29 := own_ne_new o_y27 N_q29
    have d_x27_q29 := own_ne_new o_x27 N_q29
    have g_q29 := Nat.le_trans hB.size N_q29.lo
    replace h_q2 := keep_below h_q2 N_q29.below
    replace h_q17 := keep_below h_q17 N_q29.below
    replace h_q23 := keep_below h_q23 N_q29.below
    replace o_z13 := own_below o_z13 N_q29.below
    replace o_y13 := own_below o_y13 N_q29.below
    replace o_z15 := own_below o_z15 N_q29.below
    replace o_y15 := own_below o_y15 N_q29.below
    replace o_x15 := own_below o_x15 N_q29.below
    replace o_z21 := own_below o_z21 N_q29.below
    replace o_y21 := own_below o_y21 N_q29.below
    replace o_z27 := own_below o_z27 N_q29.below
    replace o_y27 := own_below o_y27 N_q29.below
    replace o_x27 := own_below o_x27 N_q29.below
    replace hB := below_new hB hB.size N_q29
    have h_q29 := N_q29.here
    clear N_q29
    intro a28 p28
    have s9 : a28.eval (.tmp 9) = .pointer (some ⟨q29, 0, none⟩) := p28.at hs (by decide)
    replace hs := p28.st hs
    refine q_eff rfl rfl ?_
    refine g_storeB rfl s9 (((p28.ne rfl).trans (p27.ne rfl)).trans s34) Try.sizeOf50 rfl rfl h_q29 rfl ?_
    intro w31 W_w31
    replace h_q2 := keep_wrote h_q2 W_w31 n_q29_q2
    replace h_q17 := keep_wrote h_q17 W_w31 n_q29_q17
    replace h_q23 := keep_wrote h_q23 W_w31 n_q29_q23
    replace h_q29 := W_w31.here
    replace o_z13 := own_wrote o_z13 W_w31 d_z13_q29
    replace o_y13 := own_wrote o_y13 W_w31 d_y13_q29
    replace o_z15 := own_wrote o_z15 W_w31 d_z15_q29
    replace o_y15 := own_wrote o_y15 W_w31 d_y15_q29
    replace o_x15 := own_wrote o_x15 W_w31 d_x15_q29
    replace o_z21 := own_wrote o_z21 W_w31 d_z21_q29
    replace o_y21 := own_wrote o_y21 W_w31 d_y21_q29
    replace o_z27 := own_wrote o_z27 W_w31 d_z27_q29
    replace o_y27 := own_wrote o_y27 W_w31 d_y27_q29
    replace o_x27 := own_wrote o_x27 W_w31 d_x27_q29
    replace hB := below_wrote hB hB.size W_w31 g_q29
    clear W_w31
    refine q_val rfl rfl ?_
    refine g_assign rfl ((p28.ne rfl).trans s35) ?_
    intro a29 p29
    have s10 : a29.eval (.tmp 10) = .slice G27 ((trG a k zs ds).length) e27 := p29.at hs (by decide)
    replace hs := p29.st hs
    refine wpList_nil ?_
    replace s0 : a29.eval (.tmp 0) = .agg #[.int .i64 a, .slice A zs.length cp, .slice B ds.length dp] := ((p29.ne rfl).trans ((p28.ne rfl).trans ((p27.ne rfl).trans ((p26.ne rfl).trans ((p25.ne rfl).trans ((p24.ne rfl).trans ((p23.ne rfl).trans (p22.ne rfl)))))))).trans s0
    replace s1 : a29.eval (.tmp 1) = .int .i64 k := ((p29.ne rfl).trans ((p28.ne rfl).trans ((p27.ne rfl).trans ((p26.ne rfl).trans ((p25.ne rfl).trans ((p24.ne rfl).trans ((p23.ne rfl).trans (p22.ne rfl)))))))).trans s1
    replace s2 : a29.eval (.tmp 2) = .pointer (some ⟨q2, 0, none⟩) := ((p29.ne rfl).trans ((p28.ne rfl).trans ((p27.ne rfl).trans ((p26.ne rfl).trans ((p25.ne rfl).trans ((p24.ne rfl).trans ((p23.ne rfl).trans (p22.ne rfl)))))))).trans s2
    replace s4 : a29.eval (.tmp 4) = .bool false := ((p29.ne rfl).trans ((p28.ne rfl).trans ((p27.ne rfl).trans ((p26.ne rfl).trans ((p25.ne rfl).trans ((p24.ne rfl).trans ((p23.ne rfl).trans (p22.ne rfl)))))))).trans s4
    replace s5 : a29.eval (.tmp 5) = .int .i64 q := ((p29.ne rfl).trans ((p28.ne rfl).trans ((p27.ne rfl).trans ((p26.ne rfl).trans ((p25.ne rfl).trans ((p24.ne rfl).trans ((p23.ne rfl).trans (p22.ne rfl)))))))).trans s5
    replace s20 : a29.eval (.tmp 20) = .bool false := ((p29.ne rfl).trans ((p28.ne rfl).trans ((p27.ne rfl).trans ((p26.ne rfl).trans ((p25.ne rfl).trans ((p24.ne rfl).trans ((p23.ne rfl).trans (p22.ne rfl)))))))).trans s20
    replace s6 : a29.eval (.tmp 6) = .pointer (some ⟨q17, 0, none⟩) := ((p29.ne rfl).trans ((p28.ne rfl).trans ((p27.ne rfl).trans ((p26.ne rfl).trans ((p25.ne rfl).trans ((p24.ne rfl).trans ((p23.ne rfl).trans (p22.ne rfl)))))))).trans s6
    replace s7 : a29.eval (.tmp 7) = .slice G15 ((trG a k zs ds).length) e15 := ((p29.ne rfl).trans ((p28.ne rfl).trans ((p27.ne rfl).trans ((p26.ne rfl).trans ((p25.ne rfl).trans ((p24.ne rfl).trans ((p23.ne rfl).trans (p22.ne rfl)))))))).trans s7
    replace s8 : a29.eval (.tmp 8) = .pointer (some ⟨q23, 0, none⟩) := ((p29.ne rfl).trans ((p28.ne rfl).trans ((p27.ne rfl).trans ((p26.ne rfl).trans ((p25.ne rfl).trans ((p24.ne rfl).trans ((p23.ne rfl).trans (p22.ne rfl)))))))).trans s8
    replace s9 : a29.eval (.tmp 9) = .pointer (some ⟨q29, 0, none⟩) := (p29.ne rfl).trans s9
    refine hK26 _ _ ?_
    clear hK26
    refine wp_seq_k fun K32 hK32 => ?_
    refine wp_seq_k fun K33 hK33 => ?_
    refine wp_region_lit ?_
    refine q_val rfl rfl ?_
    refine g_loadB rfl s9 Try.isAgg50 Try.sizeOf50 rfl h_q29 ?_
    intro a30 p30
    have s36 : a30.eval (.tmp 36) = .agg #[.int .i64 a, .slice A27 ((trL a k zs ds).length) c27, .slice B27 ds.length d27] := p30.at hs (by decide)
    replace hs := p30.st hs
    refine q_val rfl rfl ?_
    refine g_loadB rfl ((p30.ne rfl).trans s6) Try.isAgg50 Try.sizeOf50 rfl h_q17 ?_
    intro a31 p31
    have s37 : a31.eval (.tmp 37) = .agg #[.int .i64 a, .slice A15 ((trL a k zs ds).length) c15, .slice B15 ds.length d15] := p31.at hs (by decide)
    replace hs := p31.st hs
    refine q_val rfl rfl ?_
    refine g_call rfl rfl Try.call43 (arr2 ((p31.ne rfl).trans s36) s37) ?_
    refine (eqRecorder_same _ _ _ _ _ _ _ _ _ _ _ _ _ (trL a k zs ds) ds _ rfl rfl (by omega) rfl rfl (by omega) (Rd.of_own o_z27) (Rd.of_own o_z15) (Rd.of_own o_y27) (Rd.of_own o_y15)).mono ?_
    rintro e w35 ⟨rfl, hb34⟩
    refine ⟨_, rfl, ?_⟩
    replace h_q2 := keep_below h_q2 hb34
    replace h_q17 := keep_below h_q17 hb34
    replace h_q23 := keep_below h_q23 hb34
    replace h_q29 := keep_below h_q29 hb34
    replace o_z13 := own_below o_z13 hb34
    replace o_y13 := own_below o_y13 hb34
    replace o_z15 := own_below o_z15 hb34
    replace o_y15 := own_below o_y15 hb34
    replace o_x15 := own_below o_x15 hb34
    replace o_z21 := own_below o_z21 hb34
    replace o_y21 := own_below o_y21 hb34
    replace o_z27 := own_below o_z27 hb34
    replace o_y27 := own_below o_y27 hb34
    replace o_x27 := own_below o_x27 hb34
    replace hB := hB.trans (hb34.mono hB.size)
    clear hb34
    intro a32 p32
    have s38 : a32.eval (.tmp 38) = .bool true := p32.at hs (by decide)
    replace hs := p32.st hs
    refine q_val rfl rfl ?_
    refine g_not rfl s38 ?_
    intro a33 p33
    have s39 : a33.eval (.tmp 39) = .bool false := p33.at hs (by decide)
    replace hs := p33.st hs
    refine q_val rfl rfl ?_
    refine g_move rfl s39 ?_
    intro a34 p34
    have s40 : a34.eval (.tmp 40) = .bool false := p34.at hs (by decide)
    replace hs := p34.st hs
    refine q_take rfl rfl s40 rfl ?_
    refine g_move rfl (((p34.ne rfl).trans ((p33.ne rfl).trans ((p32.ne rfl).trans ((p31.ne rfl).trans (p30.ne rfl))))).trans s10) ?_
    intro a35 p35
    have s41 : a35.eval (.tmp 41) = .slice G27 ((trG a k zs ds).length) e27 := p35.at hs (by decide)
    replace hs := p35.st hs
    refine q_take rfl rfl ((p35.ne rfl).trans s40) rfl ?_
    refine g_move rfl (((p35.ne rfl).trans ((p34.ne rfl).trans ((p33.ne rfl).trans ((p32.ne rfl).trans ((p31.ne rfl).trans (p30.ne rfl)))))).trans s7) ?_
    intro a36 p36
    have s42 : a36.eval (.tmp 42) = .slice G15 ((trG a k zs ds).length) e15 := p36.at hs (by decide)
    replace hs := p36.st hs
    refine q_take rfl rfl (((p36.ne rfl).trans (p35.ne rfl)).trans s40) rfl ?_
    refine g_call rfl rfl Try.call46 (arr2 ((p36.ne rfl).trans s41) s42) ?_
    refine (eqRecordS_same _ _ _ _ _ _ (trG a k zs ds) _ rfl rfl (by omega) (Rd.of_own o_x27) (Rd.of_own o_x15)).mono ?_
    rintro e w37 ⟨rfl, hb36⟩
    refine ⟨_, rfl, ?_⟩
    replace h_q2 := keep_below h_q2 hb36
    replace h_q17 := keep_below h_q17 hb36
    replace h_q23 := keep_below h_q23 hb36
    replace h_q29 := keep_below h_q29 hb36
    replace o_z13 := own_below o_z13 hb36
    replace o_y13 := own_below o_y13 hb36
    replace o_z15 := own_below o_z15 hb36
    replace o_y15 := own_below o_y15 hb36
    replace o_x15 := own_below o_x15 hb36
    replace o_z21 := own_below o_z21 hb36
    replace o_y21 := own_below o_y21 hb36
    replace o_z27 := own_below o_z27 hb36
    replace o_y27 := own_below o_y27 hb36
    replace o_x27 := own_below o_x27 hb36
    replace hB := hB.trans (hb36.mono hB.size)
    clear hb36
    intro a37 p37
    have s43 : a37.eval (.tmp 43) = .bool true := p37.at hs (by decide)
    replace hs := p37.st hs
    refine q_take rfl rfl (((p37.ne rfl).trans ((p36.ne rfl).trans (p35.ne rfl))).trans s40) rfl ?_
    refine g_not rfl s43 ?_
    intro a38 p38
    have s44 : a38.eval (.tmp 44) = .bool false := p38.at hs (by decide)
    replace hs := p38.st hs
    refine q_val rfl rfl ?_
    refine g_pick_f rfl (((p38.ne rfl).trans ((p37.ne rfl).trans ((p36.ne rfl).trans (p35.ne rfl)))).trans s40) s44 ?_
    intro a39 p39
    have s45 : a39.eval (.tmp 45) = .bool false := p39.at hs (by decide)
    replace hs := p39.st hs
    refine wpList_nil ?_
    replace s0 : a39.eval (.tmp 0) = .agg #[.int .i64 a, .slice A zs.length cp, .slice B ds.length dp] := ((p39.ne rfl).trans ((p38.ne rfl).trans ((p37.ne rfl).trans ((p36.ne rfl).trans ((p35.ne rfl).trans ((p34.ne rfl).trans ((p33.ne rfl).trans ((p32.ne rfl).trans ((p31.ne rfl).trans (p30.ne rfl)))))))))).trans s0
    replace s1 : a39.eval (.tmp 1) = .int .i64 k := ((p39.ne rfl).trans ((p38.ne rfl).trans ((p37.ne rfl).trans ((p36.ne rfl).trans ((p35.ne rfl).trans ((p34.ne rfl).trans ((p33.ne rfl).trans ((p32.ne rfl).trans ((p31.ne rfl).trans (p30.ne rfl)))))))))).trans s1
    replace s2 : a39.eval (.tmp 2) = .pointer (some ⟨q2, 0, none⟩) := ((p39.ne rfl).trans ((p38.ne rfl).trans ((p37.ne rfl).trans ((p36.ne rfl).trans ((p35.ne rfl).trans ((p34.ne rfl).trans ((p33.ne rfl).trans ((p32.ne rfl).trans ((p31.ne rfl).trans (p30.ne rfl)))))))))).trans s2
    replace s4 : a39.eval (.tmp 4) = .bool false := ((p39.ne rfl).trans ((p38.ne rfl).trans ((p37.ne rfl).trans ((p36.ne rfl).trans ((p35.ne rfl).trans ((p34.ne rfl).trans ((p33.ne rfl).trans ((p32.ne rfl).trans ((p31.ne rfl).trans (p30.ne rfl)))))))))).trans s4
    replace s5 : a39.eval (.tmp 5) = .int .i64 q := ((p39.ne rfl).trans ((p38.ne rfl).trans ((p37.ne rfl).trans ((p36.ne rfl).trans ((p35.ne rfl).trans ((p34.ne rfl).trans ((p33.ne rfl).trans ((p32.ne rfl).trans ((p31.ne rfl).trans (p30.ne rfl)))))))))).trans s5
    replace s20 : a39.eval (.tmp 20) = .bool false := ((p39.ne rfl).trans ((p38.ne rfl).trans ((p37.ne rfl).trans ((p36.ne rfl).trans ((p35.ne rfl).trans ((p34.ne rfl).trans ((p33.ne rfl).trans ((p32.ne rfl).trans ((p31.ne rfl).trans (p30.ne rfl)))))))))).trans s20
    replace s6 : a39.eval (.tmp 6) = .pointer (some ⟨q17, 0, none⟩) := ((p39.ne rfl).trans ((p38.ne rfl).trans ((p37.ne rfl).trans ((p36.ne rfl).trans ((p35.ne rfl).trans ((p34.ne rfl).trans ((p33.ne rfl).trans ((p32.ne rfl).trans ((p31.ne rfl).trans (p30.ne rfl)))))))))).trans s6
    replace s7 : a39.eval (.tmp 7) = .slice G15 ((trG a k zs ds).length) e15 := ((p39.ne rfl).trans ((p38.ne rfl).trans ((p37.ne rfl).trans ((p36.ne rfl).trans ((p35.ne rfl).trans ((p34.ne rfl).trans ((p33.ne rfl).trans ((p32.ne rfl).trans ((p31.ne rfl).trans (p30.ne rfl)))))))))).trans s7
    replace s8 : a39.eval (.tmp 8) = .pointer (some ⟨q23, 0, none⟩) := ((p39.ne rfl).trans ((p38.ne rfl).trans ((p37.ne rfl).trans ((p36.ne rfl).trans ((p35.ne rfl).trans ((p34.ne rfl).trans ((p33.ne rfl).trans ((p32.ne rfl).trans ((p31.ne rfl).trans (p30.ne rfl)))))))))).trans s8
    replace s9 : a39.eval (.tmp 9) = .pointer (some ⟨q29, 0, none⟩) := ((p39.ne rfl).trans ((p38.ne rfl).trans ((p37.ne rfl).trans ((p36.ne rfl).trans ((p35.ne rfl).trans ((p34.ne rfl).trans ((p33.ne rfl).trans ((p32.ne rfl).trans ((p31.ne rfl).trans (p30.ne rfl)))))))))).trans s9
    replace s10 : a39.eval (.tmp 10) = .slice G27 ((trG a k zs ds).length) e27 := ((p39.ne rfl).trans ((p38.ne rfl).trans ((p37.ne rfl).trans ((p36.ne rfl).trans ((p35.ne rfl).trans ((p34.ne rfl).trans ((p33.ne rfl).trans ((p32.ne rfl).trans ((p31.ne rfl).trans (p30.ne rfl)))))))))).trans s10
    refine hK33 _ _ ?_
    clear hK33
    refine c_false s45 ?_
    refine wp_skip ?_
    refine hK32 _ _ ?_
    clear hK32
    refine wp_seq_k fun K38 hK38 => ?_
    refine wp_seq_k fun K39 hK39 => ?_
    refine wp_drawn (n := 117) [] [] [] (fun k_ v_ wx => match k_ with | 0 => v_ = .agg #[.int .i64 a, .slice (some ⟨g21, 0, none⟩) zs.length zs.length, .slice (some ⟨i21, 0, none⟩) ds.length ds.length] | 1 => v_ = .agg #[.int .i64 a, .slice A zs.length cp, .slice B ds.length dp] | 2 => ∃ (g40 : Nat) (i40 : Nat), v_ = .agg #[.int .i64 a, .slice (some ⟨g40, 0, none⟩) zs.length zs.length, .slice (some ⟨i40, 0, none⟩) ds.length ds.length] ∧ ((wx).ownsRow w37.heap.size 26 4 (.slice (some ⟨g40, 0, none⟩) zs.length zs.length) zs.length (zs.flatMap cRecord)) ∧ ((wx).ownsRow w37.heap.size 3 1 (.slice (some ⟨i40, 0, none⟩) ds.length ds.length) ds.length (ds.flatMap cI)) | 3 => v_ = .bool true | 4 => v_ = .bool false | _ => True) (by kernel_rfl) (by kernel_rfl) (by kernel_rfl) (by kernel_rfl) hs.size ?_ ?_ ?_
    · intro i v wa wb hb hr
      rcases i with _ | _ | _ | _ | _ | i
      · exact hr
      · exact hr
      · obtain ⟨g40, i40, hr, o_z40, o_y40⟩ := hr; exact ⟨g40, i40, hr, own_below o_z40 hb, own_below o_y40 hb⟩
      · exact hr
      · exact hr
      · trivial
    · refine d_step rfl rfl ?_ (d_step rfl rfl ?_ (d_step rfl rfl ?_ (d_step rfl rfl ?_ (d_step rfl rfl ?_ (d_nil)))))
      · intro x wx ρ hρ hwx hd K hK
        have e8 : ρ (.tmp 8) = .pointer (some ⟨q23, 0, none⟩) := (hρ.inn 8 rfl).trans s8
        have h_q23 := keep_below h_q23 hwx
        refine g_loadB rfl e8 Try.isAgg50 Try.sizeOf50 rfl h_q23 ?_
        exact hK _ _ (Below.refl _ _) rfl
      · intro x wx ρ hρ hwx hd K hK
        have e2 : ρ (.tmp 2) = .pointer (some ⟨q2, 0, none⟩) := (hρ.inn 2 rfl).trans s2
        have h_q2 := keep_below h_q2 hwx
        refine g_loadB rfl e2 Try.isAgg61 Try.sizeOf61 rfl h_q2 ?_
        exact hK _ _ (Below.refl _ _) rfl
      · intro x wx ρ hρ hwx hd K hK
        obtain r1 : x 1 = .agg #[.int .i64 a, .slice A zs.length cp, .slice B ds.length dp] := hd 1 rfl
        have e47 : ρ (.tmp 47) = .agg #[.int .i64 a, .slice A zs.length cp, .slice B ds.length dp] := (hρ.out 1 47 rfl (by rw [hs.size]; decide)).trans r1
        refine g_call rfl (hρ.fn _) Try.call42 (arr1 e47) ?_
        refine (toRecorder_any _ _ _ _ _ _ _ zs ds _ rfl hm1 ((hr_z.below hB).below hwx) rfl hm2 ((hr_d.below hB).below hwx)).mono ?_
        rintro e wy ⟨g40, i40, rfl, o_z40, o_y40, _, hb40⟩
        exact ⟨_, rfl, hK _ _ hb40 ⟨g40, i40, rfl, own_base o_z40 hwx.size, own_base o_y40 hwx.size⟩⟩
      · intro x wx ρ hρ hwx hd K hK
        obtain r0 : x 0 = .agg #[.int .i64 a, .slice (some ⟨g21, 0, none⟩) zs.length zs.length, .slice (some ⟨i21, 0, none⟩) ds.length ds.length] := hd 0 rfl
        have e46 : ρ (.tmp 46) = .agg #[.int .i64 a, .slice (some ⟨g21, 0, none⟩) zs.length zs.length, .slice (some ⟨i21, 0, none⟩) ds.length ds.length] := (hρ.out 0 46 rfl (by rw [hs.size]; decide)).trans r0
        obtain ⟨g40, i40, r2, o_z40, o_y40⟩ : ∃ (g40 : Nat) (i40 : Nat), x 2 = .agg #[.int .i64 a, .slice (some ⟨g40, 0, none⟩) zs.length zs.length, .slice (some ⟨i40, 0, none⟩) ds.length ds.length] ∧ ((wx).ownsRow w37.heap.size 26 4 (.slice (some ⟨g40, 0, none⟩) zs.length zs.length) zs.length (zs.flatMap cRecord)) ∧ ((wx).ownsRow w37.heap.size 3 1 (.slice (some ⟨i40, 0, none⟩) ds.length ds.length) ds.length (ds.flatMap cI)) := hd 2 rfl
        have e48 : ρ (.tmp 48) = .agg #[.int .i64 a, .slice (some ⟨g40, 0, none⟩) zs.length zs.length, .slice (some ⟨i40, 0, none⟩) ds.length ds.length] := (hρ.out 2 48 rfl (by rw [hs.size]; decide)).trans r2
        refine g_call rfl (hρ.fn _) Try.call43 (arr2 e46 e48) ?_
        refine (eqRecorder_same _ _ _ _ _ _ _ _ _ _ _ _ _ zs ds _ rfl rfl (by omega) rfl rfl (by omega) ((Rd.of_own o_z21).below hwx) (Rd.of_own o_z40) ((Rd.of_own o_y21).below hwx) (Rd.of_own o_y40)).mono ?_
        rintro e wy ⟨rfl, hb41⟩
        exact ⟨_, rfl, hK _ _ hb41 rfl⟩
      · intro x wx ρ hρ hwx hd K hK
        obtain r3 : x 3 = .bool true := hd 3 rfl
        have e49 : ρ (.tmp 49) = .bool true := (hρ.out 3 49 rfl (by rw [hs.size]; decide)).trans r3
        refine g_not rfl e49 ?_
        exact hK _ _ (Below.refl _ _) rfl
    · intro x0 w42 hb_w42 hr0
      obtain r0 : x0 0 = .agg #[.int .i64 a, .slice (some ⟨g21, 0, none⟩) zs.length zs.length, .slice (some ⟨i21, 0, none⟩) ds.length ds.length] := hr0 0 (by decide) rfl rfl
      obtain r1 : x0 1 = .agg #[.int .i64 a, .slice A zs.length cp, .slice B ds.length dp] := hr0 1 (by decide) rfl rfl
      obtain ⟨g40, i40, r2, o_z40, o_y40⟩ : ∃ (g40 : Nat) (i40 : Nat), x0 2 = .agg #[.int .i64 a, .slice (some ⟨g40, 0, none⟩) zs.length zs.length, .slice (some ⟨i40, 0, none⟩) ds.length ds.length] ∧ ((w42).ownsRow w37.heap.size 26 4 (.slice (some ⟨g40, 0, none⟩) zs.length zs.length) zs.length (zs.flatMap cRecord)) ∧ ((w42).ownsRow w37.heap.size 3 1 (.slice (some ⟨i40, 0, none⟩) ds.length ds.length) ds.length (ds.flatMap cI)) := hr0 2 (by decide) rfl rfl
      obtain r3 : x0 3 = .bool true := hr0 3 (by decide) rfl rfl
      obtain r4 : x0 4 = .bool false := hr0 4 (by decide) rfl rfl
      clear hr0
      have m_z40_y40 := own_ne_type o_z40 o_y40 (by decide)
      have m_y40_z40 := ne_row_symm m_z40_y40
      have d_z40_q2 := own_ne_box o_z40 (lt_of_block h_q2)
      have d_z40_q17 := own_ne_box o_z40 (lt_of_block h_q17)
      have d_z40_q23 := own_ne_box o_z40 (lt_of_block h_q23)
      have d_z40_q29 := own_ne_box o_z40 (lt_of_block h_q29)
      have m_z13_z40 := own_ne_row o_z13 o_z40 (Nat.le_refl _)
      have m_z40_z13 := ne_row_symm m_z13_z40
      have m_y13_z40 := own_ne_row o_y13 o_z40 (Nat.le_refl _)
      have m_z40_y13 := ne_row_symm m_y13_z40
      have m_z15_z40 := own_ne_row o_z15 o_z40 (Nat.le_refl _)
      have m_z40_z15 := ne_row_symm m_z15_z40
      have m_y15_z40 := own_ne_row o_y15 o_z40 (Nat.le_refl _)
      have m_z40_y15 := ne_row_symm m_y15_z40
      have m_x15_z40 := own_ne_row o_x15 o_z40 (Nat.le_refl _)
      have m_z40_x15 := ne_row_symm m_x15_z40
      have m_z21_z40 := own_ne_row o_z21 o_z40 (Nat.le_refl _)
      have m_z40_z21 := ne_row_symm m_z21_z40
      have m_y21_z40 := own_ne_row o_y21 o_z40 (Nat.le_refl _)
      have m_z40_y21 := ne_row_symm m_y21_z40
      have m_z27_z40 := own_ne_row o_z27 o_z40 (Nat.le_refl _)
      have m_z40_z27 := ne_row_symm m_z27_z40
      have m_y27_z40 := own_ne_row o_y27 o_z40 (Nat.le_refl _)
      have m_z40_y27 := ne_row_symm m_y27_z40
      have m_x27_z40 := own_ne_row o_x27 o_z40 (Nat.le_refl _)
      have m_z40_x27 := ne_row_symm m_x27_z40
      have g_z40 : ∀ b, ((some ⟨g40, 0, none⟩) : Option Addr).map (·.block) = some b → w.heap.size ≤ b := fun b h => Nat.le_trans hB.size (own_row o_z40 b h).1
      replace o_z40 := own_base (base := w.heap.size) o_z40 hB.size
      have d_y40_q2 := own_ne_box o_y40 (lt_of_block h_q2)
      have d_y40_q17 := own_ne_box o_y40 (lt_of_block h_q17)
      have d_y40_q23 := own_ne_box o_y40 (lt_of_block h_q23)
      have d_y40_q29 := own_ne_box o_y40 (lt_of_block h_q29)
      have m_z13_y40 := own_ne_row o_z13 o_y40 (Nat.le_refl _)
      have m_y40_z13 := ne_row_symm m_z13_y40
      have m_y13_y40 := own_ne_row o_y13 o_y40 (Nat.le_refl _)
      have m_y40_y13 := ne_row_symm m_y13_y40
      have m_z15_y40 := own_ne_row o_z15 o_y40 (Nat.le_refl _)
      have m_y40_z15 := ne_row_symm m_z15_y40
      have m_y15_y40 := own_ne_row o_y15 o_y40 (Nat.le_refl _)
      have m_y40_y15 := ne_row_symm m_y15_y40
      have m_x15_y40 := own_ne_row o_x15 o_y40 (Nat.le_refl _)
      have m_y40_x15 := ne_row_symm m_x15_y40
      have m_z21_y40 := own_ne_row o_z21 o_y40 (Nat.le_refl _)
      have m_y40_z21 := ne_row_symm m_z21_y40
      have m_y21_y40 := own_ne_row o_y21 o_y40 (Nat.le_refl _)
      have m_y40_y21 := ne_row_symm m_y21_y40
      have m_z27_y40 := own_ne_row o_z27 o_y40 (Nat.le_refl _)
      have m_y40_z27 := ne_row_symm m_z27_y40
      have m_y27_y40 := own_ne_row o_y27 o_y40 (Nat.le_refl _)
      have m_y40_y27 := ne_row_symm m_y27_y40
      have m_x27_y40 := own_ne_row o_x27 o_y40 (Nat.le_refl _)
      have m_y40_x27 := ne_row_symm m_x27_y40
      have g_y40 : ∀ b, ((some ⟨i40, 0, none⟩) : Option Addr).map (·.block) = some b → w.heap.size ≤ b := fun b h => Nat.le_trans hB.size (own_row o_y40 b h).1
      replace o_y40 := own_base (base := w.heap.size) o_y40 hB.size
      replace h_q2 := keep_below h_q2 hb_w42
      replace h_q17 := keep_below h_q17 hb_w42
      replace h_q23 := keep_below h_q23 hb_w42
      replace h_q29 := keep_below h_q29 hb_w42
      replace o_z13 := own_below o_z13 hb_w42
      replace o_y13 := own_below o_y13 hb_w42
      replace o_z15 := own_below o_z15 hb_w42
      replace o_y15 := own_below o_y15 hb_w42
      replace o_x15 := own_below o_x15 hb_w42
      replace o_z21 := own_below o_z21 hb_w42
      replace o_y21 := own_below o_y21 hb_w42
      replace o_z27 := own_below o_z27 hb_w42
      replace o_y27 := own_below o_y27 hb_w42
      replace o_x27 := own_below o_x27 hb_w42
      replace hB := hB.trans (hb_w42.mono hB.size)
      clear hb_w42
      intro x a40 hρ hsz hdf hx hl hk hlk
      replace s0 : a40.eval (.tmp 0) = .agg #[.int .i64 a, .slice A zs.length cp, .slice B ds.length dp] := (hρ.inn 0 rfl).trans s0
      replace s1 : a40.eval (.tmp 1) = .int .i64 k := (hρ.inn 1 rfl).trans s1
      replace s2 : a40.eval (.tmp 2) = .pointer (some ⟨q2, 0, none⟩) := (hρ.inn 2 rfl).trans s2
      replace s4 : a40.eval (.tmp 4) = .bool false := (hρ.inn 4 rfl).trans s4
      replace s5 : a40.eval (.tmp 5) = .int .i64 q := (hρ.inn 5 rfl).trans s5
      replace s6 : a40.eval (.tmp 6) = .pointer (some ⟨q17, 0, none⟩) := (hρ.inn 6 rfl).trans s6
      replace s7 : a40.eval (.tmp 7) = .slice G15 ((trG a k zs ds).length) e15 := (hρ.inn 7 rfl).trans s7
      replace s8 : a40.eval (.tmp 8) = .pointer (some ⟨q23, 0, none⟩) := (hρ.inn 8 rfl).trans s8
      replace s9 : a40.eval (.tmp 9) = .pointer (some ⟨q29, 0, none⟩) := (hρ.inn 9 rfl).trans s9
      replace s10 : a40.eval (.tmp 10) = .slice G27 ((trG a k zs ds).length) e27 := (hρ.inn 10 rfl).trans s10
      replace s20 : a40.eval (.tmp 20) = .bool false := (hρ.inn 20 rfl).trans s20
      replace s45 : a40.eval (.tmp 45) = .bool false := (hρ.inn 45 rfl).trans s45
      have s50 : a40.eval (.tmp 50) = .bool false := (hρ.out 4 50 rfl (by rw [hs.size]; decide)).trans ((hx 4 (by decide) rfl rfl).trans r4)
      replace hs : St 117 a40 := ⟨hsz.trans hs.size, hdf.trans hs.nodef⟩
      clear hρ hsz hdf hx hl hk hlk
      refine hK39 _ _ ?_
      clear hK39
      refine c_false s50 ?_
      refine wp_skip ?_
      refine hK38 _ _ ?_
      clear hK38
      refine wp_seq_k fun K43 hK43 => ?_
      refine wp_region_lit ?_
      refine q_val rfl rfl ?_
      refine g_assign rfl rfl ?_
      intro a41 p41
      have s11 : a41.eval (.tmp 11) = .int .i64 1 := p41.at hs (by decide)
      replace hs := p41.st hs
      refine wpList_nil ?_
      replace s0 : a41.eval (.tmp 0) = .agg #[.int .i64 a, .slice A zs.length cp, .slice B ds.length dp] := (p41.ne rfl).trans s0
      replace s1 : a41.eval (.tmp 1) = .int .i64 k := (p41.ne rfl).trans s1
      replace s2 : a41.eval (.tmp 2) = .pointer (some ⟨q2, 0, none⟩) := (p41.ne rfl).trans s2
      replace s4 : a41.eval (.tmp 4) = .bool false := (p41.ne rfl).trans s4
      replace s5 : a41.eval (.tmp 5) = .int .i64 q := (p41.ne rfl).trans s5
      replace s6 : a41.eval (.tmp 6) = .pointer (some ⟨q17, 0, none⟩) := (p41.ne rfl).trans s6
      replace s7 : a41.eval (.tmp 7) = .slice G15 ((trG a k zs ds).length) e15 := (p41.ne rfl).trans s7
      replace s8 : a41.eval (.tmp 8) = .pointer (some ⟨q23, 0, none⟩) := (p41.ne rfl).trans s8
      replace s9 : a41.eval (.tmp 9) = .pointer (some ⟨q29, 0, none⟩) := (p41.ne rfl).trans s9
      replace s10 : a41.eval (.tmp 10) = .slice G27 ((trG a k zs ds).length) e27 := (p41.ne rfl).trans s10
      replace s20 : a41.eval (.tmp 20) = .bool false := (p41.ne rfl).trans s20
      replace s45 : a41.eval (.tmp 45) = .bool false := (p41.ne rfl).trans s45
      replace s50 : a41.eval (.tmp 50) = .bool false := (p41.ne rfl).trans s50
      refine hK43 _ _ ?_
      clear hK43
      refine wp_seq_k fun K44 hK44 => ?_
      refine wp_region_lit ?_
      refine q_val rfl rfl ?_
      refine g_loadB rfl s8 Try.isAgg50 Try.sizeOf50 rfl h_q23 ?_
      intro a42 p42
      have s51 : a42.eval (.tmp 51) = .agg #[.int .i64 a, .slice (some ⟨g21, 0, none⟩) zs.length zs.length, .slice (some ⟨i21, 0, none⟩) ds.length ds.length] := p42.at hs (by decide)
      replace hs := p42.st hs
      refine q_val rfl rfl ?_
      refine g_move rfl ((p42.ne rfl).trans s11) ?_
      intro a43 p43
      have s52 : a43.eval (.tmp 52) = .int .i64 1 := p43.at hs (by decide)
      replace hs := p43.st hs
      refine q_val rfl rfl ?_
      refine g_call rfl rfl Try.call47 (arr2 ((p43.ne rfl).trans s51) s52) ?_
      refine (markRecorder_any    _ (by omega) (by omega) (by omega) (by omega) o_z21 o_y21).mono ?_
      rintro e w45_1 ⟨rfl, w45_0, oo45_0, gg45_0, oo45_1, gg45_1⟩
      refine ⟨_, rfl, ?_⟩
      replace h_q2 := keep_grown h_q2 gg45_0 d_z21_q2
      replace h_q17 := keep_grown h_q17 gg45_0 d_z21_q17
      replace h_q23 := keep_grown h_q23 gg45_0 d_z21_q23
      replace h_q29 := keep_grown h_q29 gg45_0 d_z21_q29
      replace o_z13 := own_grown o_z13 gg45_0 m_z13_z21
      replace o_y13 := own_grown o_y13 gg45_0 m_y13_z21
      replace o_z15 := own_grown o_z15 gg45_0 m_z15_z21
      replace o_y15 := own_grown o_y15 gg45_0 m_y15_z21
      replace o_x15 := own_grown o_x15 gg45_0 m_x15_z21
      replace o_y21 := own_grown o_y21 gg45_0 m_y21_z21
      replace o_z27 := own_grown o_z27 gg45_0 m_z27_z21
      replace o_y27 := own_grown o_y27 gg45_0 m_y27_z21
      replace o_x27 := own_grown o_x27 gg45_0 m_x27_z21
      replace o_z40 := own_grown o_z40 gg45_0 m_z40_z21
      replace o_y40 := own_grown o_y40 gg45_0 m_y40_z21
      replace hB := below_grown hB hB.size gg45_0 g_z21
      replace o_z21 := oo45_0
      clear gg45_0
      replace h_q2 := keep_grown h_q2 gg45_1 d_y21_q2
      replace h_q17 := keep_grown h_q17 gg45_1 d_y21_q17
      replace h_q23 := keep_grown h_q23 gg45_1 d_y21_q23
      replace h_q29 := keep_grown h_q29 gg45_1 d_y21_q29
      replace o_z13 := own_grown o_z13 gg45_1 m_z13_y21
      replace o_y13 := own_grown o_y13 gg45_1 m_y13_y21
      replace o_z15 := own_grown o_z15 gg45_1 m_z15_y21
      replace o_y15 := own_grown o_y15 gg45_1 m_y15_y21
      replace o_x15 := own_grown o_x15 gg45_1 m_x15_y21
      replace o_z21 := own_grown o_z21 gg45_1 m_z21_y21
      replace o_z27 := own_grown o_z27 gg45_1 m_z27_y21
      replace o_y27 := own_grown o_y27 gg45_1 m_y27_y21
      replace o_x27 := own_grown o_x27 gg45_1 m_x27_y21
      replace o_z40 := own_grown o_z40 gg45_1 m_z40_y21
      replace o_y40 := own_grown o_y40 gg45_1 m_y40_y21
      replace hB := below_grown hB hB.size gg45_1 g_y21
      replace o_y21 := oo45_1
      clear gg45_1
      intro a44 p44
      have s53 : a44.eval (.tmp 53) = .int .i64 (1 + 4 * ((zs.length : Nat) : Int) + ((ds.length : Nat) : Int)) := p44.at hs (by decide)
      replace hs := p44.st hs
      refine q_val rfl rfl ?_
      refine g_assign rfl s53 ?_
      intro a45 p45
      have s11 : a45.eval (.tmp 11) = .int .i64 (1 + 4 * ((zs.length : Nat) : Int) + ((ds.length : Nat) : Int)) := p45.at hs (by decide)
      replace hs := p45.st hs
      refine wpList_nil ?_
      replace s0 : a45.eval (.tmp 0) = .agg #[.int .i64 a, .slice A zs.length cp, .slice B ds.length dp] := ((p45.ne rfl).trans ((p44.ne rfl).trans ((p43.ne rfl).trans (p42.ne rfl)))).trans s0
      replace s1 : a45.eval (.tmp 1) = .int .i64 k := ((p45.ne rfl).trans ((p44.ne rfl).trans ((p43.ne rfl).trans (p42.ne rfl)))).trans s1
      replace s2 : a45.eval (.tmp 2) = .pointer (some ⟨q2, 0, none⟩) := ((p45.ne rfl).trans ((p44.ne rfl).trans ((p43.ne rfl).trans (p42.ne rfl)))).trans s2
      replace s4 : a45.eval (.tmp 4) = .bool false := ((p45.ne rfl).trans ((p44.ne rfl).trans ((p43.ne rfl).trans (p42.ne rfl)))).trans s4
      replace s5 : a45.eval (.tmp 5) = .int .i64 q := ((p45.ne rfl).trans ((p44.ne rfl).trans ((p43.ne rfl).trans (p42.ne rfl)))).trans s5
      replace s6 : a45.eval (.tmp 6) = .pointer (some ⟨q17, 0, none⟩) := ((p45.ne rfl).trans ((p44.ne rfl).trans ((p43.ne rfl).trans (p42.ne rfl)))).trans s6
      replace s7 : a45.eval (.tmp 7) = .slice G15 ((trG a k zs ds).length) e15 := ((p45.ne rfl).trans ((p44.ne rfl).trans ((p43.ne rfl).trans (p42.ne rfl)))).trans s7
      replace s8 : a45.eval (.tmp 8) = .pointer (some ⟨q23, 0, none⟩) := ((p45.ne rfl).trans ((p44.ne rfl).trans ((p43.ne rfl).trans (p42.ne rfl)))).trans s8
      replace s9 : a45.eval (.tmp 9) = .pointer (some ⟨q29, 0, none⟩) := ((p45.ne rfl).trans ((p44.ne rfl).trans ((p43.ne rfl).trans (p42.ne rfl)))).trans s9
      replace s10 : a45.eval (.tmp 10) = .slice G27 ((trG a k zs ds).length) e27 := ((p45.ne rfl).trans ((p44.ne rfl).trans ((p43.ne rfl).trans (p42.ne rfl)))).trans s10
      replace s20 : a45.eval (.tmp 20) = .bool false := ((p45.ne rfl).trans ((p44.ne rfl).trans ((p43.ne rfl).trans (p42.ne rfl)))).trans s20
      replace s45 : a45.eval (.tmp 45) = .bool false := ((p45.ne rfl).trans ((p44.ne rfl).trans ((p43.ne rfl).trans (p42.ne rfl)))).trans s45
      replace s50 : a45.eval (.tmp 50) = .bool false := ((p45.ne rfl).trans ((p44.ne rfl).trans ((p43.ne rfl).trans (p42.ne rfl)))).trans s50
      refine hK44 _ _ ?_
      clear hK44
      refine wp_seq_k fun K46 hK46 => ?_
      refine wp_seq_k fun K47 hK47 => ?_
      refine wp_region_lit ?_
      refine q_val rfl rfl ?_
      refine g_move rfl s11 ?_
      intro a46 p46
      have s54 : a46.eval (.tmp 54) = .int .i64 (1 + 4 * ((zs.length : Nat) : Int) + ((ds.length : Nat) : Int)) := p46.at hs (by decide)
      replace hs := p46.st hs
      refine q_val rfl rfl ?_
      refine g_lss rfl s54 rfl ?_
      intro a47 p47
      have s55 : a47.eval (.tmp 55) = .bool false := (p47.at hs (by decide)).trans (congrArg Value.bool (decide_eq_false (by omega)))
      replace hs := p47.st hs
      refine q_val rfl rfl ?_
      refine g_move rfl s55 ?_
      intro a48 p48
      have s56 : a48.eval (.tmp 56) = .bool false := p48.at hs (by decide)
      replace hs := p48.st hs
      refine q_take rfl rfl s56 rfl ?_
      refine g_loadB rfl (((p48.ne rfl).trans ((p47.ne rfl).trans (p46.ne rfl))).trans s9) Try.isAgg50 Try.sizeOf50 rfl h_q29 ?_
      intro a49 p49
      have s57 : a49.eval (.tmp 57) = .agg #[.int .i64 a, .slice A27 ((trL a k zs ds).length) c27, .slice B27 ds.length d27] := p49.at hs (by decide)
      replace hs := p49.st hs
      refine q_take rfl rfl ((p49.ne rfl).trans s56) rfl ?_
      refine g_loadB rfl (((p49.ne rfl).trans ((p48.ne rfl).trans ((p47.ne rfl).trans (p46.ne rfl)))).trans s6) Try.isAgg50 Try.sizeOf50 rfl h_q17 ?_
      intro a50 p50
      have s58 : a50.eval (.tmp 58) = .agg #[.int .i64 a, .slice A15 ((trL a k zs ds).length) c15, .slice B15 ds.length d15] := p50.at hs (by decide)
      replace hs := p50.st hs
      refine q_take rfl rfl (((p50.ne rfl).trans (p49.ne rfl)).trans s56) rfl ?_
      refine g_call rfl rfl Try.call43 (arr2 ((p50.ne rfl).trans s57) s58) ?_
      refine (eqRecorder_same _ _ _ _ _ _ _ _ _ _ _ _ _ (trL a k zs ds) ds _ rfl rfl (by omega) rfl rfl (by omega) (Rd.of_own o_z27) (Rd.of_own o_z15) (Rd.of_own o_y27) (Rd.of_own o_y15)).mono ?_
      rintro e w49 ⟨rfl, hb48⟩
      refine ⟨_, rfl, ?_⟩
      replace h_q2 := keep_below h_q2 hb48
      replace h_q17 := keep_below h_q17 hb48
      replace h_q23 := keep_below h_q23 hb48
      replace h_q29 := keep_below h_q29 hb48
      replace o_z13 := own_below o_z13 hb48
      replace o_y13 := own_below o_y13 hb48
      replace o_z15 := own_below o_z15 hb48
      replace o_y15 := own_below o_y15 hb48
      replace o_x15 := own_below o_x15 hb48
      replace o_z21 := own_below o_z21 hb48
      replace o_y21 := own_below o_y21 hb48
      replace o_z27 := own_below o_z27 hb48
      replace o_y27 := own_below o_y27 hb48
      replace o_x27 := own_below o_x27 hb48
      replace o_z40 := own_below o_z40 hb48
      replace o_y40 := own_below o_y40 hb48
      replace hB := hB.trans (hb48.mono hB.size)
      clear hb48
      intro a51 p51
      have s59 : a51.eval (.tmp 59) = .bool true := p51.at hs (by decide)
      replace hs := p51.st hs
      refine q_take rfl rfl (((p51.ne rfl).trans ((p50.ne rfl).trans (p49.ne rfl))).trans s56) rfl ?_
      refine g_not rfl s59 ?_
      intro a52 p52
      have s60 : a52.eval (.tmp 60) = .bool false := p52.at hs (by decide)
      replace hs := p52.st hs
      refine q_val rfl rfl ?_
      refine g_pick_f rfl (((p52.ne rfl).trans ((p51.ne rfl).trans ((p50.ne rfl).trans (p49.ne rfl)))).trans s56) s60 ?_
      intro a53 p53
      have s61 : a53.eval (.tmp 61) = .bool false := p53.at hs (by decide)
      replace hs := p53.st hs
      refine q_val rfl rfl ?_
      refine g_move rfl s61 ?_
      intro a54 p54
      have s62 : a54.eval (.tmp 62) = .bool false := p54.at hs (by decide)
      replace hs := p54.st hs
      refine q_take rfl rfl s62 rfl ?_
      refine g_move rfl (((p54.ne rfl).trans ((p53.ne rfl).trans ((p52.ne rfl).trans ((p51.ne rfl).trans ((p50.ne rfl).trans ((p49.ne rfl).trans ((p48.ne rfl).trans ((p47.ne rfl).trans (p46.ne rfl))))))))).trans s10) ?_
      intro a55 p55
      have s63 : a55.eval (.tmp 63) = .slice G27 ((trG a k zs ds).length) e27 := p55.at hs (by decide)
      replace hs := p55.st hs
      refine q_take rfl rfl ((p55.ne rfl).trans s62) rfl ?_
      refine g_move rfl (((p55.ne rfl).trans ((p54.ne rfl).trans ((p53.ne rfl).trans ((p52.ne rfl).trans ((p51.ne rfl).trans ((p50.ne rfl).trans ((p49.ne rfl).trans ((p48.ne rfl).trans ((p47.ne rfl).trans (p46.ne rfl)))))))))).trans s7) ?_
      intro a56 p56
      have s64 : a56.eval (.tmp 64) = .slice G15 ((trG a k zs ds).length) e15 := p56.at hs (by decide)
      replace hs := p56.st hs
      refine q_take rfl rfl (((p56.ne rfl).trans (p55.ne rfl)).trans s62) rfl ?_
      refine g_call rfl rfl Try.call46 (arr2 ((p56.ne rfl).trans s63) s64) ?_
      refine (eqRecordS_same _ _ _ _ _ _ (trG a k zs ds) _ rfl rfl (by omega) (Rd.of_own o_x27) (Rd.of_own o_x15)).mono ?_
      rintro e w51 ⟨rfl, hb50⟩
      refine ⟨_, rfl, ?_⟩
      replace h_q2 := keep_below h_q2 hb50
      replace h_q17 := keep_below h_q17 hb50
      replace h_q23 := keep_below h_q23 hb50
      replace h_q29 := keep_below h_q29 hb50
      replace o_z13 := own_below o_z13 hb50
      replace o_y13 := own_below o_y13 hb50
      replace o_z15 := own_below o_z15 hb50
      replace o_y15 := own_below o_y15 hb50
      replace o_x15 := own_below o_x15 hb50
      replace o_z21 := own_below o_z21 hb50
      replace o_y21 := own_below o_y21 hb50
      replace o_z27 := own_below o_z27 hb50
      replace o_y27 := own_below o_y27 hb50
      replace o_x27 := own_below o_x27 hb50
      replace o_z40 := own_below o_z40 hb50
      replace o_y40 := own_below o_y40 hb50
      replace hB := hB.trans (hb50.mono hB.size)
      clear hb50
      intro a57 p57
      have s65 : a57.eval (.tmp 65) = .bool true := p57.at hs (by decide)
      replace hs := p57.st hs
      refine q_take rfl rfl (((p57.ne rfl).trans ((p56.ne rfl).trans (p55.ne rfl))).trans s62) rfl ?_
      refine g_not rfl s65 ?_
      intro a58 p58
      have s66 : a58.eval (.tmp 66) = .bool false := p58.at hs (by decide)
      replace hs := p58.st hs
      refine q_val rfl rfl ?_
      refine g_pick_f rfl (((p58.ne rfl).trans ((p57.ne rfl).trans ((p56.ne rfl).trans (p55.ne rfl)))).trans s62) s66 ?_
      intro a59 p59
      have s67 : a59.eval (.tmp 67) = .bool false := p59.at hs (by decide)
      replace hs := p59.st hs
      refine wpList_nil ?_
      replace s0 : a59.eval (.tmp 0) = .agg #[.int .i64 a, .slice A zs.length cp, .slice B ds.length dp] := ((p59.ne rfl).trans ((p58.ne rfl).trans ((p57.ne rfl).trans ((p56.ne rfl).trans ((p55.ne rfl).trans ((p54.ne rfl).trans ((p53.ne rfl).trans ((p52.ne rfl).trans ((p51.ne rfl).trans ((p50.ne rfl).trans ((p49.ne rfl).trans ((p48.ne rfl).trans ((p47.ne rfl).trans (p46.ne rfl)))))))))))))).trans s0
      replace s1 : a59.eval (.tmp 1) = .int .i64 k := ((p59.ne rfl).trans ((p58.ne rfl).trans ((p57.ne rfl).trans ((p56.ne rfl).trans ((p55.ne rfl).trans ((p54.ne rfl).trans ((p53.ne rfl).trans ((p52.ne rfl).trans ((p51.ne rfl).trans ((p50.ne rfl).trans ((p49.ne rfl).trans ((p48.ne rfl).trans ((p47.ne rfl).trans (p46.ne rfl)))))))))))))).trans s1
      replace s2 : a59.eval (.tmp 2) = .pointer (some ⟨q2, 0, none⟩) := ((p59.ne rfl).trans ((p58.ne rfl).trans ((p57.ne rfl).trans ((p56.ne rfl).trans ((p55.ne rfl).trans ((p54.ne rfl).trans ((p53.ne rfl).trans ((p52.ne rfl).trans ((p51.ne rfl).trans ((p50.ne rfl).trans ((p49.ne rfl).trans ((p48.ne rfl).trans ((p47.ne rfl).trans (p46.ne rfl)))))))))))))).trans s2
      replace s4 : a59.eval (.tmp 4) = .bool false := ((p59.ne rfl).trans ((p58.ne rfl).trans ((p57.ne rfl).trans ((p56.ne rfl).trans ((p55.ne rfl).trans ((p54.ne rfl).trans ((p53.ne rfl).trans ((p52.ne rfl).trans ((p51.ne rfl).trans ((p50.ne rfl).trans ((p49.ne rfl).trans ((p48.ne rfl).trans ((p47.ne rfl).trans (p46.ne rfl)))))))))))))).trans s4
      replace s5 : a59.eval (.tmp 5) = .int .i64 q := ((p59.ne rfl).trans ((p58.ne rfl).trans ((p57.ne rfl).trans ((p56.ne rfl).trans ((p55.ne rfl).trans ((p54.ne rfl).trans ((p53.ne rfl).trans ((p52.ne rfl).trans ((p51.ne rfl).trans ((p50.ne rfl).trans ((p49.ne rfl).trans ((p48.ne rfl).trans ((p47.ne rfl).trans (p46.ne rfl)))))))))))))).trans s5
      replace s6 : a59.eval (.tmp 6) = .pointer (some ⟨q17, 0, none⟩) := ((p59.ne rfl).trans ((p58.ne rfl).trans ((p57.ne rfl).trans ((p56.ne rfl).trans ((p55.ne rfl).trans ((p54.ne rfl).trans ((p53.ne rfl).trans ((p52.ne rfl).trans ((p51.ne rfl).trans ((p50.ne rfl).trans ((p49.ne rfl).trans ((p48.ne rfl).trans ((p47.ne rfl).trans (p46.ne rfl)))))))))))))).trans s6
      replace s7 : a59.eval (.tmp 7) = .slice G15 ((trG a k zs ds).length) e15 := ((p59.ne rfl).trans ((p58.ne rfl).trans ((p57.ne rfl).trans ((p56.ne rfl).trans ((p55.ne rfl).trans ((p54.ne rfl).trans ((p53.ne rfl).trans ((p52.ne rfl).trans ((p51.ne rfl).trans ((p50.ne rfl).trans ((p49.ne rfl).trans ((p48.ne rfl).trans ((p47.ne rfl).trans (p46.ne rfl)))))))))))))).trans s7
      replace s8 : a59.eval (.tmp 8) = .pointer (some ⟨q23, 0, none⟩) := ((p59.ne rfl).trans ((p58.ne rfl).trans ((p57.ne rfl).trans ((p56.ne rfl).trans ((p55.ne rfl).trans ((p54.ne rfl).trans ((p53.ne rfl).trans ((p52.ne rfl).trans ((p51.ne rfl).trans ((p50.ne rfl).trans ((p49.ne rfl).trans ((p48.ne rfl).trans ((p47.ne rfl).trans (p46.ne rfl)))))))))))))).trans s8
      replace s9 : a59.eval (.tmp 9) = .pointer (some ⟨q29, 0, none⟩) := ((p59.ne rfl).trans ((p58.ne rfl).trans ((p57.ne rfl).trans ((p56.ne rfl).trans ((p55.ne rfl).trans ((p54.ne rfl).trans ((p53.ne rfl).trans ((p52.ne rfl).trans ((p51.ne rfl).trans ((p50.ne rfl).trans ((p49.ne rfl).trans ((p48.ne rfl).trans ((p47.ne rfl).trans (p46.ne rfl)))))))))))))).trans s9
      replace s10 : a59.eval (.tmp 10) = .slice G27 ((trG a k zs ds).length) e27 := ((p59.ne rfl).trans ((p58.ne rfl).trans ((p57.ne rfl).trans ((p56.ne rfl).trans ((p55.ne rfl).trans ((p54.ne rfl).trans ((p53.ne rfl).trans ((p52.ne rfl).trans ((p51.ne rfl).trans ((p50.ne rfl).trans ((p49.ne rfl).trans ((p48.ne rfl).trans ((p47.ne rfl).trans (p46.ne rfl)))))))))))))).trans s10
      replace s20 : a59.eval (.tmp 20) = .bool false := ((p59.ne rfl).trans ((p58.ne rfl).trans ((p57.ne rfl).trans ((p56.ne rfl).trans ((p55.ne rfl).trans ((p54.ne rfl).trans ((p53.ne rfl).trans ((p52.ne rfl).trans ((p51.ne rfl).trans ((p50.ne rfl).trans ((p49.ne rfl).trans ((p48.ne rfl).trans ((p47.ne rfl).trans (p46.ne rfl)))))))))))))).trans s20
      replace s45 : a59.eval (.tmp 45) = .bool false := ((p59.ne rfl).trans ((p58.ne rfl).trans ((p57.ne rfl).trans ((p56.ne rfl).trans ((p55.ne rfl).trans ((p54.ne rfl).trans ((p53.ne rfl).trans ((p52.ne rfl).trans ((p51.ne rfl).trans ((p50.ne rfl).trans ((p49.ne rfl).trans ((p48.ne rfl).trans ((p47.ne rfl).trans (p46.ne rfl)))))))))))))).trans s45
      replace s50 : a59.eval (.tmp 50) = .bool false := ((p59.ne rfl).trans ((p58.ne rfl).trans ((p57.ne rfl).trans ((p56.ne rfl).trans ((p55.ne rfl).trans ((p54.ne rfl).trans ((p53.ne rfl).trans ((p52.ne rfl).trans ((p51.ne rfl).trans ((p50.ne rfl).trans ((p49.ne rfl).trans ((p48.ne rfl).trans ((p47.ne rfl).trans (p46.ne rfl)))))))))))))).trans s50
      replace s11 : a59.eval (.tmp 11) = .int .i64 (1 + 4 * ((zs.length : Nat) : Int) + ((ds.length : Nat) : Int)) := ((p59.ne rfl).trans ((p58.ne rfl).trans ((p57.ne rfl).trans ((p56.ne rfl).trans ((p55.ne rfl).trans ((p54.ne rfl).trans ((p53.ne rfl).trans ((p52.ne rfl).trans ((p51.ne rfl).trans ((p50.ne rfl).trans ((p49.ne rfl).trans ((p48.ne rfl).trans ((p47.ne rfl).trans (p46.ne rfl)))))))))))))).trans s11
      refine hK47 _ _ ?_
      clear hK47
      refine c_false s67 ?_
      refine wp_skip ?_
      refine hK46 _ _ ?_
      clear hK46
      refine wp_seq_k fun K52 hK52 => ?_
      refine wp_region_lit ?_
      refine q_val rfl rfl ?_
      refine g_assign rfl rfl ?_
      intro a60 p60
      have s12 : a60.eval (.tmp 12) = .int .i64 1 := p60.at hs (by decide)
      replace hs := p60.st hs
      refine wpList_nil ?_
      replace s0 : a60.eval (.tmp 0) = .agg #[.int .i64 a, .slice A zs.length cp, .slice B ds.length dp] := (p60.ne rfl).trans s0
      replace s1 : a60.eval (.tmp 1) = .int .i64 k := (p60.ne rfl).trans s1
      replace s2 : a60.eval (.tmp 2) = .pointer (some ⟨q2, 0, none⟩) := (p60.ne rfl).trans s2
      replace s4 : a60.eval (.tmp 4) = .bool false := (p60.ne rfl).trans s4
      replace s5 : a60.eval (.tmp 5) = .int .i64 q := (p60.ne rfl).trans s5
      replace s6 : a60.eval (.tmp 6) = .pointer (some ⟨q17, 0, none⟩) := (p60.ne rfl).trans s6
      replace s7 : a60.eval (.tmp 7) = .slice G15 ((trG a k zs ds).length) e15 := (p60.ne rfl).trans s7
      replace s8 : a60.eval (.tmp 8) = .pointer (some ⟨q23, 0, none⟩) := (p60.ne rfl).trans s8
      replace s9 : a60.eval (.tmp 9) = .pointer (some ⟨q29, 0, none⟩) := (p60.ne rfl).trans s9
      replace s10 : a60.eval (.tmp 10) = .slice G27 ((trG a k zs ds).length) e27 := (p60.ne rfl).trans s10
      replace s20 : a60.eval (.tmp 20) = .bool false := (p60.ne rfl).trans s20
      replace s45 : a60.eval (.tmp 45) = .bool false := (p60.ne rfl).trans s45
      replace s50 : a60.eval (.tmp 50) = .bool false := (p60.ne rfl).trans s50
      replace s11 : a60.eval (.tmp 11) = .int .i64 (1 + 4 * ((zs.length : Nat) : Int) + ((ds.length : Nat) : Int)) := (p60.ne rfl).trans s11
      replace s67 : a60.eval (.tmp 67) = .bool false := (p60.ne rfl).trans s67
      refine hK52 _ _ ?_
      clear hK52
      refine wp_seq_k fun K53 hK53 => ?_
      refine wp_region_lit ?_
      refine q_val rfl rfl ?_
      refine g_loadB rfl s9 Try.isAgg50 Try.sizeOf50 rfl h_q29 ?_
      intro a61 p61
      have s68 : a61.eval (.tmp 68) = .agg #[.int .i64 a, .slice A27 ((trL a k zs ds).length) c27, .slice B27 ds.length d27] := p61.at hs (by decide)
      replace hs := p61.st hs
      refine q_val rfl rfl ?_
      refine g_move rfl ((p61.ne rfl).trans s12) ?_
      intro a62 p62
      have s69 : a62.eval (.tmp 69) = .int .i64 1 := p62.at hs (by decide)
      replace hs := p62.st hs
      refine q_val rfl rfl ?_
      refine g_call rfl rfl Try.call47 (arr2 ((p62.ne rfl).trans s68) s69) ?_
      refine (markRecorder_any    _ (by omega) (by omega) (by omega) (by omega) o_z27 o_y27).mono ?_
      rintro e w54_1 ⟨rfl, w54_0, oo54_0, gg54_0, oo54_1, gg54_1⟩
      refine ⟨_, rfl, ?_⟩
      replace h_q2 := keep_grown h_q2 gg54_0 d_z27_q2
      replace h_q17 := keep_grown h_q17 gg54_0 d_z27_q17
      replace h_q23 := keep_grown h_q23 gg54_0 d_z27_q23
      replace h_q29 := keep_grown h_q29 gg54_0 d_z27_q29
      replace o_z13 := own_grown o_z13 gg54_0 m_z13_z27
      replace o_y13 := own_grown o_y13 gg54_0 m_y13_z27
      replace o_z15 := own_grown o_z15 gg54_0 m_z15_z27
      replace o_y15 := own_grown o_y15 gg54_0 m_y15_z27
      replace o_x15 := own_grown o_x15 gg54_0 m_x15_z27
      replace o_z21 := own_grown o_z21 gg54_0 m_z21_z27
      replace o_y21 := own_grown o_y21 gg54_0 m_y21_z27
      replace o_y27 := own_grown o_y27 gg54_0 m_y27_z27
      replace o_x27 := own_grown o_x27 gg54_0 m_x27_z27
      replace o_z40 := own_grown o_z40 gg54_0 m_z40_z27
      replace o_y40 := own_grown o_y40 gg54_0 m_y40_z27
      replace hB := below_grown hB hB.size gg54_0 g_z27
      replace o_z27 := oo54_0
      clear gg54_0
      replace h_q2 := keep_grown h_q2 gg54_1 d_y27_q2
      replace h_q17 := keep_grown h_q17 gg54_1 d_y27_q17
      replace h_q23 := keep_grown h_q23 gg54_1 d_y27_q23
      replace h_q29 := keep_grown h_q29 gg54_1 d_y27_q29
      replace o_z13 := own_grown o_z13 gg54_1 m_z13_y27
      replace o_y13 := own_grown o_y13 gg54_1 m_y13_y27
      replace o_z15 := own_grown o_z15 gg54_1 m_z15_y27
      replace o_y15 := own_grown o_y15 gg54_1 m_y15_y27
      replace o_x15 := own_grown o_x15 gg54_1 m_x15_y27
      replace o_z21 := own_grown o_z21 gg54_1 m_z21_y27
      replace o_y21 := own_grown o_y21 gg54_1 m_y21_y27
      replace o_z27 := own_grown o_z27 gg54_1 m_z27_y27
      replace o_x27 := own_grown o_x27 gg54_1 m_x27_y27
      replace o_z40 := own_grown o_z40 gg54_1 m_z40_y27
      replace o_y40 := own_grown o_y40 gg54_1 m_y40_y27
      replace hB := below_grown hB hB.size gg54_1 g_y27
      replace o_y27 := oo54_1
      clear gg54_1
      intro a63 p63
      have s70 : a63.eval (.tmp 70) = .int .i64 (1 + 4 * (((trL a k zs ds).length : Nat) : Int) + ((ds.length : Nat) : Int)) := p63.at hs (by decide)
      replace hs := p63.st hs
      refine q_val rfl rfl ?_
      refine g_assign rfl s70 ?_
      intro a64 p64
      have s12 : a64.eval (.tmp 12) = .int .i64 (1 + 4 * (((trL a k zs ds).length : Nat) : Int) + ((ds.length : Nat) : Int)) := p64.at hs (by decide)
      replace hs := p64.st hs
      refine wpList_nil ?_
      replace s0 : a64.eval (.tmp 0) = .agg #[.int .i64 a, .slice A zs.length cp, .slice B ds.length dp] := ((p64.ne rfl).trans ((p63.ne rfl).trans ((p62.ne rfl).trans (p61.ne rfl)))).trans s0
      replace s1 : a64.eval (.tmp 1) = .int .i64 k := ((p64.ne rfl).trans ((p63.ne rfl).trans ((p62.ne rfl).trans (p61.ne rfl)))).trans s1
      replace s2 : a64.eval (.tmp 2) = .pointer (some ⟨q2, 0, none⟩) := ((p64.ne rfl).trans ((p63.ne rfl).trans ((p62.ne rfl).trans (p61.ne rfl)))).trans s2
      replace s4 : a64.eval (.tmp 4) = .bool false := ((p64.ne rfl).trans ((p63.ne rfl).trans ((p62.ne rfl).trans (p61.ne rfl)))).trans s4
      replace s5 : a64.eval (.tmp 5) = .int .i64 q := ((p64.ne rfl).trans ((p63.ne rfl).trans ((p62.ne rfl).trans (p61.ne rfl)))).trans s5
      replace s6 : a64.eval (.tmp 6) = .pointer (some ⟨q17, 0, none⟩) := ((p64.ne rfl).trans ((p63.ne rfl).trans ((p62.ne rfl).trans (p61.ne rfl)))).trans s6
      replace s7 : a64.eval (.tmp 7) = .slice G15 ((trG a k zs ds).length) e15 := ((p64.ne rfl).trans ((p63.ne rfl).trans ((p62.ne rfl).trans (p61.ne rfl)))).trans s7
      replace s8 : a64.eval (.tmp 8) = .pointer (some ⟨q23, 0, none⟩) := ((p64.ne rfl).trans ((p63.ne rfl).trans ((p62.ne rfl).trans (p61.ne rfl)))).trans s8
      replace s9 : a64.eval (.tmp 9) = .pointer (some ⟨q29, 0, none⟩) := ((p64.ne rfl).trans ((p63.ne rfl).trans ((p62.ne rfl).trans (p61.ne rfl)))).trans s9
      replace s10 : a64.eval (.tmp 10) = .slice G27 ((trG a k zs ds).length) e27 := ((p64.ne rfl).trans ((p63.ne rfl).trans ((p62.ne rfl).trans (p61.ne rfl)))).trans s10
      replace s20 : a64.eval (.tmp 20) = .bool false := ((p64.ne rfl).trans ((p63.ne rfl).trans ((p62.ne rfl).trans (p61.ne rfl)))).trans s20
      replace s45 : a64.eval (.tmp 45) = .bool false := ((p64.ne rfl).trans ((p63.ne rfl).trans ((p62.ne rfl).trans (p61.ne rfl)))).trans s45
      replace s50 : a64.eval (.tmp 50) = .bool false := ((p64.ne rfl).trans ((p63.ne rfl).trans ((p62.ne rfl).trans (p61.ne rfl)))).trans s50
      replace s11 : a64.eval (.tmp 11) = .int .i64 (1 + 4 * ((zs.length : Nat) : Int) + ((ds.length : Nat) : Int)) := ((p64.ne rfl).trans ((p63.ne rfl).trans ((p62.ne rfl).trans (p61.ne rfl)))).trans s11
      replace s67 : a64.eval (.tmp 67) = .bool false := ((p64.ne rfl).trans ((p63.ne rfl).trans ((p62.ne rfl).trans (p61.ne rfl)))).trans s67
      refine hK53 _ _ ?_
      clear hK53
      refine wp_seq_k fun K55 hK55 => ?_
      refine wp_region_lit ?_
      refine q_val rfl rfl ?_
      refine g_move rfl s10 ?_
      intro a65 p65
      have s71 : a65.eval (.tmp 71) = .slice G27 ((trG a k zs ds).length) e27 := p65.at hs (by decide)
      replace hs := p65.st hs
      refine q_val rfl rfl ?_
      refine g_move rfl ((p65.ne rfl).trans s12) ?_
      intro a66 p66
      have s72 : a66.eval (.tmp 72) = .int .i64 (1 + 4 * (((trL a k zs ds).length : Nat) : Int) + ((ds.length : Nat) : Int)) := p66.at hs (by decide)
      replace hs := p66.st hs
      refine q_val rfl rfl ?_
      refine g_call rfl rfl Try.call48 (arr2 ((p66.ne rfl).trans s71) s72) ?_
      refine (markRecordS_any'   _ (by omega) (by omega) (by omega) o_x27).mono ?_
      rintro e w56_0 ⟨rfl, oo56_0, gg56_0⟩
      refine ⟨_, rfl, ?_⟩
      replace h_q2 := keep_grown h_q2 gg56_0 d_x27_q2
      replace h_q17 := keep_grown h_q17 gg56_0 d_x27_q17
      replace h_q23 := keep_grown h_q23 gg56_0 d_x27_q23
      replace h_q29 := keep_grown h_q29 gg56_0 d_x27_q29
      replace o_z13 := own_grown o_z13 gg56_0 m_z13_x27
      replace o_y13 := own_grown o_y13 gg56_0 m_y13_x27
      replace o_z15 := own_grown o_z15 gg56_0 m_z15_x27
      replace o_y15 := own_grown o_y15 gg56_0 m_y15_x27
      replace o_x15 := own_grown o_x15 gg56_0 m_x15_x27
      replace o_z21 := own_grown o_z21 gg56_0 m_z21_x27
      replace o_y21 := own_grown o_y21 gg56_0 m_y21_x27
      replace o_z27 := own_grown o_z27 gg56_0 m_z27_x27
      replace o_y27 := own_grown o_y27 gg56_0 m_y27_x27
      replace o_z40 := own_grown o_z40 gg56_0 m_z40_x27
      replace o_y40 := own_grown o_y40 gg56_0 m_y40_x27
      replace hB := below_grown hB hB.size gg56_0 g_x27
      replace o_x27 := oo56_0
      clear gg56_0
      intro a67 p67
      have s73 : a67.eval (.tmp 73) = .int .i64 (1 + 4 * (((trL a k zs ds).length : Nat) : Int) + ((ds.length : Nat) : Int) + 4 * (((trG a k zs ds).length : Nat) : Int)) := p67.at hs (by decide)
      replace hs := p67.st hs
      refine q_val rfl rfl ?_
      refine g_assign rfl s73 ?_
      intro a68 p68
      have s12 : a68.eval (.tmp 12) = .int .i64 (1 + 4 * (((trL a k zs ds).length : Nat) : Int) + ((ds.length : Nat) : Int) + 4 * (((trG a k zs ds).length : Nat) : Int)) := p68.at hs (by decide)
      replace hs := p68.st hs
      refine wpList_nil ?_
      replace s0 : a68.eval (.tmp 0) = .agg #[.int .i64 a, .slice A zs.length cp, .slice B ds.length dp] := ((p68.ne rfl).trans ((p67.ne rfl).trans ((p66.ne rfl).trans (p65.ne rfl)))).trans s0
      replace s1 : a68.eval (.tmp 1) = .int .i64 k := ((p68.ne rfl).trans ((p67.ne rfl).trans ((p66.ne rfl).trans (p65.ne rfl)))).trans s1
      replace s2 : a68.eval (.tmp 2) = .pointer (some ⟨q2, 0, none⟩) := ((p68.ne rfl).trans ((p67.ne rfl).trans ((p66.ne rfl).trans (p65.ne rfl)))).trans s2
      replace s4 : a68.eval (.tmp 4) = .bool false := ((p68.ne rfl).trans ((p67.ne rfl).trans ((p66.ne rfl).trans (p65.ne rfl)))).trans s4
      replace s5 : a68.eval (.tmp 5) = .int .i64 q := ((p68.ne rfl).trans ((p67.ne rfl).trans ((p66.ne rfl).trans (p65.ne rfl)))).trans s5
      replace s6 : a68.eval (.tmp 6) = .pointer (some ⟨q17, 0, none⟩) := ((p68.ne rfl).trans ((p67.ne rfl).trans ((p66.ne rfl).trans (p65.ne rfl)))).trans s6
      replace s7 : a68.eval (.tmp 7) = .slice G15 ((trG a k zs ds).length) e15 := ((p68.ne rfl).trans ((p67.ne rfl).trans ((p66.ne rfl).trans (p65.ne rfl)))).trans s7
      replace s8 : a68.eval (.tmp 8) = .pointer (some ⟨q23, 0, none⟩) := ((p68.ne rfl).trans ((p67.ne rfl).trans ((p66.ne rfl).trans (p65.ne rfl)))).trans s8
      replace s9 : a68.eval (.tmp 9) = .pointer (some ⟨q29, 0, none⟩) := ((p68.ne rfl).trans ((p67.ne rfl).trans ((p66.ne rfl).trans (p65.ne rfl)))).trans s9
      replace s10 : a68.eval (.tmp 10) = .slice G27 ((trG a k zs ds).length) e27 := ((p68.ne rfl).trans ((p67.ne rfl).trans ((p66.ne rfl).trans (p65.ne rfl)))).trans s10
      replace s20 : a68.eval (.tmp 20) = .bool false := ((p68.ne rfl).trans ((p67.ne rfl).trans ((p66.ne rfl).trans (p65.ne rfl)))).trans s20
      replace s45 : a68.eval (.tmp 45) = .bool false := ((p68.ne rfl).trans ((p67.ne rfl).trans ((p66.ne rfl).trans (p65.ne rfl)))).trans s45
      replace s50 : a68.eval (.tmp 50) = .bool false := ((p68.ne rfl).trans ((p67.ne rfl).trans ((p66.ne rfl).trans (p65.ne rfl)))).trans s50
      replace s11 : a68.eval (.tmp 11) = .int .i64 (1 + 4 * ((zs.length : Nat) : Int) + ((ds.length : Nat) : Int)) := ((p68.ne rfl).trans ((p67.ne rfl).trans ((p66.ne rfl).trans (p65.ne rfl)))).trans s11
      replace s67 : a68.eval (.tmp 67) = .bool false := ((p68.ne rfl).trans ((p67.ne rfl).trans ((p66.ne rfl).trans (p65.ne rfl)))).trans s67
      refine hK55 _ _ ?_
      clear hK55
      refine wp_seq_k fun K57 hK57 => ?_
      refine wp_region_lit ?_
      refine q_val rfl rfl ?_
      refine g_assign rfl rfl ?_
      intro a69 p69
      have s13 : a69.eval (.tmp 13) = .int .i64 1 := p69.at hs (by decide)
      replace hs := p69.st hs
      refine wpList_nil ?_
      replace s0 : a69.eval (.tmp 0) = .agg #[.int .i64 a, .slice A zs.length cp, .slice B ds.length dp] := (p69.ne rfl).trans s0
      replace s1 : a69.eval (.tmp 1) = .int .i64 k := (p69.ne rfl).trans s1
      replace s2 : a69.eval (.tmp 2) = .pointer (some ⟨q2, 0, none⟩) := (p69.ne rfl).trans s2
      replace s4 : a69.eval (.tmp 4) = .bool false := (p69.ne rfl).trans s4
      replace s5 : a69.eval (.tmp 5) = .int .i64 q := (p69.ne rfl).trans s5
      replace s6 : a69.eval (.tmp 6) = .pointer (some ⟨q17, 0, none⟩) := (p69.ne rfl).trans s6
      replace s7 : a69.eval (.tmp 7) = .slice G15 ((trG a k zs ds).length) e15 := (p69.ne rfl).trans s7
      replace s8 : a69.eval (.tmp 8) = .pointer (some ⟨q23, 0, none⟩) := (p69.ne rfl).trans s8
      replace s9 : a69.eval (.tmp 9) = .pointer (some ⟨q29, 0, none⟩) := (p69.ne rfl).trans s9
      replace s10 : a69.eval (.tmp 10) = .slice G27 ((trG a k zs ds).length) e27 := (p69.ne rfl).trans s10
      replace s20 : a69.eval (.tmp 20) = .bool false := (p69.ne rfl).trans s20
      replace s45 : a69.eval (.tmp 45) = .bool false := (p69.ne rfl).trans s45
      replace s50 : a69.eval (.tmp 50) = .bool false := (p69.ne rfl).trans s50
      replace s11 : a69.eval (.tmp 11) = .int .i64 (1 + 4 * ((zs.length : Nat) : Int) + ((ds.length : Nat) : Int)) := (p69.ne rfl).trans s11
      replace s67 : a69.eval (.tmp 67) = .bool false := (p69.ne rfl).trans s67
      replace s12 : a69.eval (.tmp 12) = .int .i64 (1 + 4 * (((trL a k zs ds).length : Nat) : Int) + ((ds.length : Nat) : Int) + 4 * (((trG a k zs ds).length : Nat) : Int)) := (p69.ne rfl).trans s12
      refine hK57 _ _ ?_
      clear hK57
      refine wp_seq_k fun K58 hK58 => ?_
      refine wp_region_lit ?_
      refine q_val rfl rfl ?_
      refine g_loadB rfl s9 Try.isAgg50 Try.sizeOf50 rfl h_q29 ?_
      intro a70 p70
      have s74 : a70.eval (.tmp 74) = .agg #[.int .i64 a, .slice A27 ((trL a k zs ds).length) c27, .slice B27 ds.length d27] := p70.at hs (by decide)
      replace hs := p70.st hs
      refine q_val rfl rfl ?_
      refine g_move rfl ((p70.ne rfl).trans s13) ?_
      intro a71 p71
      have s75 : a71.eval (.tmp 75) = .int .i64 1 := p71.at hs (by decide)
      replace hs := p71.st hs
      refine q_val rfl rfl ?_
      refine g_call rfl rfl Try.call49 (arr2 ((p71.ne rfl).trans s74) s75) ?_
      refine (heldRecorder_any _ (by omega) (by omega) (by omega) (by omega) (Rd.of_own o_z27) (Rd.of_own o_y27)).mono ?_
      rintro e w60 ⟨rfl, hb59⟩
      refine ⟨_, rfl, ?_⟩
      replace h_q2 := keep_below h_q2 hb59
      replace h_q17 := keep_below h_q17 hb59
      replace h_q23 := keep_below h_q23 hb59
      replace h_q29 := keep_below h_q29 hb59
      replace o_z13 := own_below o_z13 hb59
      replace o_y13 := own_below o_y13 hb59
      replace o_z15 := own_below o_z15 hb59
      replace o_y15 := own_below o_y15 hb59
      replace o_x15 := own_below o_x15 hb59
      replace o_z21 := own_below o_z21 hb59
      replace o_y21 := own_below o_y21 hb59
      replace o_z27 := own_below o_z27 hb59
      replace o_y27 := own_below o_y27 hb59
      replace o_x27 := own_below o_x27 hb59
      replace o_z40 := own_below o_z40 hb59
      replace o_y40 := own_below o_y40 hb59
      replace hB := hB.trans (hb59.mono hB.size)
      clear hb59
      intro a72 p72
      have s76 : a72.eval (.tmp 76) = .int .i64 (1 + 4 * (((trL a k zs ds).length : Nat) : Int) + ((ds.length : Nat) : Int)) := p72.at hs (by decide)
      replace hs := p72.st hs
      refine q_val rfl rfl ?_
      refine g_assign rfl s76 ?_
      intro a73 p73
      have s13 : a73.eval (.tmp 13) = .int .i64 (1 + 4 * (((trL a k zs ds).length : Nat) : Int) + ((ds.length : Nat) : Int)) := p73.at hs (by decide)
      replace hs := p73.st hs
      refine wpList_nil ?_
      replace s0 : a73.eval (.tmp 0) = .agg #[.int .i64 a, .slice A zs.length cp, .slice B ds.length dp] := ((p73.ne rfl).trans ((p72.ne rfl).trans ((p71.ne rfl).trans (p70.ne rfl)))).trans s0
      replace s1 : a73.eval (.tmp 1) = .int .i64 k := ((p73.ne rfl).trans ((p72.ne rfl).trans ((p71.ne rfl).trans (p70.ne rfl)))).trans s1
      replace s2 : a73.eval (.tmp 2) = .pointer (some ⟨q2, 0, none⟩) := ((p73.ne rfl).trans ((p72.ne rfl).trans ((p71.ne rfl).trans (p70.ne rfl)))).trans s2
      replace s4 : a73.eval (.tmp 4) = .bool false := ((p73.ne rfl).trans ((p72.ne rfl).trans ((p71.ne rfl).trans (p70.ne rfl)))).trans s4
      replace s5 : a73.eval (.tmp 5) = .int .i64 q := ((p73.ne rfl).trans ((p72.ne rfl).trans ((p71.ne rfl).trans (p70.ne rfl)))).trans s5
      replace s6 : a73.eval (.tmp 6) = .pointer (some ⟨q17, 0, none⟩) := ((p73.ne rfl).trans ((p72.ne rfl).trans ((p71.ne rfl).trans (p70.ne rfl)))).trans s6
      replace s7 : a73.eval (.tmp 7) = .slice G15 ((trG a k zs ds).length) e15 := ((p73.ne rfl).trans ((p72.ne rfl).trans ((p71.ne rfl).trans (p70.ne rfl)))).trans s7
      replace s8 : a73.eval (.tmp 8) = .pointer (some ⟨q23, 0, none⟩) := ((p73.ne rfl).trans ((p72.ne rfl).trans ((p71.ne rfl).trans (p70.ne rfl)))).trans s8
      replace s9 : a73.eval (.tmp 9) = .pointer (some ⟨q29, 0, none⟩) := ((p73.ne rfl).trans ((p72.ne rfl).trans ((p71.ne rfl).trans (p70.ne rfl)))).trans s9
      replace s10 : a73.eval (.tmp 10) = .slice G27 ((trG a k zs ds).length) e27 := ((p73.ne rfl).trans ((p72.ne rfl).trans ((p71.ne rfl).trans (p70.ne rfl)))).trans s10
      replace s20 : a73.eval (.tmp 20) = .bool false := ((p73.ne rfl).trans ((p72.ne rfl).trans ((p71.ne rfl).trans (p70.ne rfl)))).trans s20
      replace s45 : a73.eval (.tmp 45) = .bool false := ((p73.ne rfl).trans ((p72.ne rfl).trans ((p71.ne rfl).trans (p70.ne rfl)))).trans s45
      replace s50 : a73.eval (.tmp 50) = .bool false := ((p73.ne rfl).trans ((p72.ne rfl).trans ((p71.ne rfl).trans (p70.ne rfl)))).trans s50
      replace s11 : a73.eval (.tmp 11) = .int .i64 (1 + 4 * ((zs.length : Nat) : Int) + ((ds.length : Nat) : Int)) := ((p73.ne rfl).trans ((p72.ne rfl).trans ((p71.ne rfl).trans (p70.ne rfl)))).trans s11
      replace s67 : a73.eval (.tmp 67) = .bool false := ((p73.ne rfl).trans ((p72.ne rfl).trans ((p71.ne rfl).trans (p70.ne rfl)))).trans s67
      replace s12 : a73.eval (.tmp 12) = .int .i64 (1 + 4 * (((trL a k zs ds).length : Nat) : Int) + ((ds.length : Nat) : Int) + 4 * (((trG a k zs ds).length : Nat) : Int)) := ((p73.ne rfl).trans ((p72.ne rfl).trans ((p71.ne rfl).trans (p70.ne rfl)))).trans s12
      refine hK58 _ _ ?_
      clear hK58
      refine wp_seq_k fun K61 hK61 => ?_
      refine wp_seq_k fun K62 hK62 => ?_
      refine wp_region_lit ?_
      refine q_val rfl rfl ?_
      refine g_move rfl s13 ?_
      intro a74 p74
      have s77 : a74.eval (.tmp 77) = .int .i64 (1 + 4 * (((trL a k zs ds).length : Nat) : Int) + ((ds.length : Nat) : Int)) := p74.at hs (by decide)
      replace hs := p74.st hs
      refine q_val rfl rfl ?_
      refine g_lss rfl s77 rfl ?_
      intro a75 p75
      have s78 : a75.eval (.tmp 78) = .bool false := (p75.at hs (by decide)).trans (congrArg Value.bool (decide_eq_false (by omega)))
      replace hs := p75.st hs
      refine wpList_nil ?_
      replace s0 : a75.eval (.tmp 0) = .agg #[.int .i64 a, .slice A zs.length cp, .slice B ds.length dp] := ((p75.ne rfl).trans (p74.ne rfl)).trans s0
      replace s1 : a75.eval (.tmp 1) = .int .i64 k := ((p75.ne rfl).trans (p74.ne rfl)).trans s1
      replace s2 : a75.eval (.tmp 2) = .pointer (some ⟨q2, 0, none⟩) := ((p75.ne rfl).trans (p74.ne rfl)).trans s2
      replace s4 : a75.eval (.tmp 4) = .bool false := ((p75.ne rfl).trans (p74.ne rfl)).trans s4
      replace s5 : a75.eval (.tmp 5) = .int .i64 q := ((p75.ne rfl).trans (p74.ne rfl)).trans s5
      replace s6 : a75.eval (.tmp 6) = .pointer (some ⟨q17, 0, none⟩) := ((p75.ne rfl).trans (p74.ne rfl)).trans s6
      replace s7 : a75.eval (.tmp 7) = .slice G15 ((trG a k zs ds).length) e15 := ((p75.ne rfl).trans (p74.ne rfl)).trans s7
      replace s8 : a75.eval (.tmp 8) = .pointer (some ⟨q23, 0, none⟩) := ((p75.ne rfl).trans (p74.ne rfl)).trans s8
      replace s9 : a75.eval (.tmp 9) = .pointer (some ⟨q29, 0, none⟩) := ((p75.ne rfl).trans (p74.ne rfl)).trans s9
      replace s10 : a75.eval (.tmp 10) = .slice G27 ((trG a k zs ds).length) e27 := ((p75.ne rfl).trans (p74.ne rfl)).trans s10
      replace s20 : a75.eval (.tmp 20) = .bool false := ((p75.ne rfl).trans (p74.ne rfl)).trans s20
      replace s45 : a75.eval (.tmp 45) = .bool false := ((p75.ne rfl).trans (p74.ne rfl)).trans s45
      replace s50 : a75.eval (.tmp 50) = .bool false := ((p75.ne rfl).trans (p74.ne rfl)).trans s50
      replace s11 : a75.eval (.tmp 11) = .int .i64 (1 + 4 * ((zs.length : Nat) : Int) + ((ds.length : Nat) : Int)) := ((p75.ne rfl).trans (p74.ne rfl)).trans s11
      replace s67 : a75.eval (.tmp 67) = .bool false := ((p75.ne rfl).trans (p74.ne rfl)).trans s67
      replace s12 : a75.eval (.tmp 12) = .int .i64 (1 + 4 * (((trL a k zs ds).length : Nat) : Int) + ((ds.length : Nat) : Int) + 4 * (((trG a k zs ds).length : Nat) : Int)) := ((p75.ne rfl).trans (p74.ne rfl)).trans s12
      replace s13 : a75.eval (.tmp 13) = .int .i64 (1 + 4 * (((trL a k zs ds).length : Nat) : Int) + ((ds.length : Nat) : Int)) := ((p75.ne rfl).trans (p74.ne rfl)).trans s13
      refine hK62 _ _ ?_
      clear hK62
      refine c_false s78 ?_
      refine wp_skip ?_
      refine hK61 _ _ ?_
      clear hK61
      refine wp_seq_k fun K63 hK63 => ?_
      refine wp_region_lit ?_
      refine q_val rfl rfl ?_
      refine g_move rfl s10 ?_
      intro a76 p76
      have s79 : a76.eval (.tmp 79) = .slice G27 ((trG a k zs ds).length) e27 := p76.at hs (by decide)
      replace hs := p76.st hs
      refine q_val rfl rfl ?_
      refine g_move rfl ((p76.ne rfl).trans s13) ?_
      intro a77 p77
      have s80 : a77.eval (.tmp 80) = .int .i64 (1 + 4 * (((trL a k zs ds).length : Nat) : Int) + ((ds.length : Nat) : Int)) := p77.at hs (by decide)
      replace hs := p77.st hs
      refine q_val rfl rfl ?_
      refine g_call rfl rfl Try.call50 (arr2 ((p77.ne rfl).trans s79) s80) ?_
      refine (heldRecordS_any' _ (by omega) (by omega) (by omega) (Rd.of_own o_x27)).mono ?_
      rintro e w65 ⟨rfl, hb64⟩
      refine ⟨_, rfl, ?_⟩
      replace h_q2 := keep_below h_q2 hb64
      replace h_q17 := keep_below h_q17 hb64
      replace h_q23 := keep_below h_q23 hb64
      replace h_q29 := keep_below h_q29 hb64
      replace o_z13 := own_below o_z13 hb64
      replace o_y13 := own_below o_y13 hb64
      replace o_z15 := own_below o_z15 hb64
      replace o_y15 := own_below o_y15 hb64
      replace o_x15 := own_below o_x15 hb64
      replace o_z21 := own_below o_z21 hb64
      replace o_y21 := own_below o_y21 hb64
      replace o_z27 := own_below o_z27 hb64
      replace o_y27 := own_below o_y27 hb64
      replace o_x27 := own_below o_x27 hb64
      replace o_z40 := own_below o_z40 hb64
      replace o_y40 := own_below o_y40 hb64
      replace hB := hB.trans (hb64.mono hB.size)
      clear hb64
      intro a78 p78
      have s81 : a78.eval (.tmp 81) = .int .i64 (1 + 4 * (((trL a k zs ds).length : Nat) : Int) + ((ds.length : Nat) : Int) + 4 * (((trG a k zs ds).length : Nat) : Int)) := p78.at hs (by decide)
      replace hs := p78.st hs
      refine q_val rfl rfl ?_
      refine g_assign rfl s81 ?_
      intro a79 p79
      have s13 : a79.eval (.tmp 13) = .int .i64 (1 + 4 * (((trL a k zs ds).length : Nat) : Int) + ((ds.length : Nat) : Int) + 4 * (((trG a k zs ds).length : Nat) : Int)) := p79.at hs (by decide)
      replace hs := p79.st hs
      refine wpList_nil ?_
      replace s0 : a79.eval (.tmp 0) = .agg #[.int .i64 a, .slice A zs.length cp, .slice B ds.length dp] := ((p79.ne rfl).trans ((p78.ne rfl).trans ((p77.ne rfl).trans (p76.ne rfl)))).trans s0
      replace s1 : a79.eval (.tmp 1) = .int .i64 k := ((p79.ne rfl).trans ((p78.ne rfl).trans ((p77.ne rfl).trans (p76.ne rfl)))).trans s1
      replace s2 : a79.eval (.tmp 2) = .pointer (some ⟨q2, 0, none⟩) := ((p79.ne rfl).trans ((p78.ne rfl).trans ((p77.ne rfl).trans (p76.ne rfl)))).trans s2
      replace s4 : a79.eval (.tmp 4) = .bool false := ((p79.ne rfl).trans ((p78.ne rfl).trans ((p77.ne rfl).trans (p76.ne rfl)))).trans s4
      replace s5 : a79.eval (.tmp 5) = .int .i64 q := ((p79.ne rfl).trans ((p78.ne rfl).trans ((p77.ne rfl).trans (p76.ne rfl)))).trans s5
      replace s6 : a79.eval (.tmp 6) = .pointer (some ⟨q17, 0, none⟩) := ((p79.ne rfl).trans ((p78.ne rfl).trans ((p77.ne rfl).trans (p76.ne rfl)))).trans s6
      replace s7 : a79.eval (.tmp 7) = .slice G15 ((trG a k zs ds).length) e15 := ((p79.ne rfl).trans ((p78.ne rfl).trans ((p77.ne rfl).trans (p76.ne rfl)))).trans s7
      replace s8 : a79.eval (.tmp 8) = .pointer (some ⟨q23, 0, none⟩) := ((p79.ne rfl).trans ((p78.ne rfl).trans ((p77.ne rfl).trans (p76.ne rfl)))).trans s8
      replace s9 : a79.eval (.tmp 9) = .pointer (some ⟨q29, 0, none⟩) := ((p79.ne rfl).trans ((p78.ne rfl).trans ((p77.ne rfl).trans (p76.ne rfl)))).trans s9
      replace s10 : a79.eval (.tmp 10) = .slice G27 ((trG a k zs ds).length) e27 := ((p79.ne rfl).trans ((p78.ne rfl).trans ((p77.ne rfl).trans (p76.ne rfl)))).trans s10
      replace s20 : a79.eval (.tmp 20) = .bool false := ((p79.ne rfl).trans ((p78.ne rfl).trans ((p77.ne rfl).trans (p76.ne rfl)))).trans s20
      replace s45 : a79.eval (.tmp 45) = .bool false := ((p79.ne rfl).trans ((p78.ne rfl).trans ((p77.ne rfl).trans (p76.ne rfl)))).trans s45
      replace s50 : a79.eval (.tmp 50) = .bool false := ((p79.ne rfl).trans ((p78.ne rfl).trans ((p77.ne rfl).trans (p76.ne rfl)))).trans s50
      replace s11 : a79.eval (.tmp 11) = .int .i64 (1 + 4 * ((zs.length : Nat) : Int) + ((ds.length : Nat) : Int)) := ((p79.ne rfl).trans ((p78.ne rfl).trans ((p77.ne rfl).trans (p76.ne rfl)))).trans s11
      replace s67 : a79.eval (.tmp 67) = .bool false := ((p79.ne rfl).trans ((p78.ne rfl).trans ((p77.ne rfl).trans (p76.ne rfl)))).trans s67
      replace s12 : a79.eval (.tmp 12) = .int .i64 (1 + 4 * (((trL a k zs ds).length : Nat) : Int) + ((ds.length : Nat) : Int) + 4 * (((trG a k zs ds).length : Nat) : Int)) := ((p79.ne rfl).trans ((p78.ne rfl).trans ((p77.ne rfl).trans (p76.ne rfl)))).trans s12
      replace s78 : a79.eval (.tmp 78) = .bool false := ((p79.ne rfl).trans ((p78.ne rfl).trans ((p77.ne rfl).trans (p76.ne rfl)))).trans s78
      refine hK63 _ _ ?_
      clear hK63
      refine wp_seq_k fun K66 hK66 => ?_
      refine wp_seq_k fun K67 hK67 => ?_
      refine wp_region_lit ?_
      refine q_val rfl rfl ?_
      refine g_move rfl s13 ?_
      intro a80 p80
      have s82 : a80.eval (.tmp 82) = .int .i64 (1 + 4 * (((trL a k zs ds).length : Nat) : Int) + ((ds.length : Nat) : Int) + 4 * (((trG a k zs ds).length : Nat) : Int)) := p80.at hs (by decide)
      replace hs := p80.st hs
      refine q_val rfl rfl ?_
      refine g_lss rfl s82 rfl ?_
      intro a81 p81
      have s83 : a81.eval (.tmp 83) = .bool false := (p81.at hs (by decide)).trans (congrArg Value.bool (decide_eq_false (by omega)))
      replace hs := p81.st hs
      refine wpList_nil ?_
      replace s0 : a81.eval (.tmp 0) = .agg #[.int .i64 a, .slice A zs.length cp, .slice B ds.length dp] := ((p81.ne rfl).trans (p80.ne rfl)).trans s0
      replace s1 : a81.eval (.tmp 1) = .int .i64 k := ((p81.ne rfl).trans (p80.ne rfl)).trans s1
      replace s2 : a81.eval (.tmp 2) = .pointer (some ⟨q2, 0, none⟩) := ((p81.ne rfl).trans (p80.ne rfl)).trans s2
      replace s4 : a81.eval (.tmp 4) = .bool false := ((p81.ne rfl).trans (p80.ne rfl)).trans s4
      replace s5 : a81.eval (.tmp 5) = .int .i64 q := ((p81.ne rfl).trans (p80.ne rfl)).trans s5
      replace s6 : a81.eval (.tmp 6) = .pointer (some ⟨q17, 0, none⟩) := ((p81.ne rfl).trans (p80.ne rfl)).trans s6
      replace s7 : a81.eval (.tmp 7) = .slice G15 ((trG a k zs ds).length) e15 := ((p81.ne rfl).trans (p80.ne rfl)).trans s7
      replace s8 : a81.eval (.tmp 8) = .pointer (some ⟨q23, 0, none⟩) := ((p81.ne rfl).trans (p80.ne rfl)).trans s8
      replace s9 : a81.eval (.tmp 9) = .pointer (some ⟨q29, 0, none⟩) := ((p81.ne rfl).trans (p80.ne rfl)).trans s9
      replace s10 : a81.eval (.tmp 10) = .slice G27 ((trG a k zs ds).length) e27 := ((p81.ne rfl).trans (p80.ne rfl)).trans s10
      replace s20 : a81.eval (.tmp 20) = .bool false := ((p81.ne rfl).trans (p80.ne rfl)).trans s20
      replace s45 : a81.eval (.tmp 45) = .bool false := ((p81.ne rfl).trans (p80.ne rfl)).trans s45
      replace s50 : a81.eval (.tmp 50) = .bool false := ((p81.ne rfl).trans (p80.ne rfl)).trans s50
      replace s11 : a81.eval (.tmp 11) = .int .i64 (1 + 4 * ((zs.length : Nat) : Int) + ((ds.length : Nat) : Int)) := ((p81.ne rfl).trans (p80.ne rfl)).trans s11
      replace s67 : a81.eval (.tmp 67) = .bool false := ((p81.ne rfl).trans (p80.ne rfl)).trans s67
      replace s12 : a81.eval (.tmp 12) = .int .i64 (1 + 4 * (((trL a k zs ds).length : Nat) : Int) + ((ds.length : Nat) : Int) + 4 * (((trG a k zs ds).length : Nat) : Int)) := ((p81.ne rfl).trans (p80.ne rfl)).trans s12
      replace s13 : a81.eval (.tmp 13) = .int .i64 (1 + 4 * (((trL a k zs ds).length : Nat) : Int) + ((ds.length : Nat) : Int) + 4 * (((trG a k zs ds).length : Nat) : Int)) := ((p81.ne rfl).trans (p80.ne rfl)).trans s13
      replace s78 : a81.eval (.tmp 78) = .bool false := ((p81.ne rfl).trans (p80.ne rfl)).trans s78
      refine hK67 _ _ ?_
      clear hK67
      refine c_false s83 ?_
      refine wp_skip ?_
      refine hK66 _ _ ?_
      clear hK66
      refine wp_seq_k fun K68 hK68 => ?_
      refine wp_seq_k fun K69 hK69 => ?_
      refine wp_region_lit ?_
      refine q_val rfl rfl ?_
      refine g_move rfl s13 ?_
      intro a82 p82
      have s84 : a82.eval (.tmp 84) = .int .i64 (1 + 4 * (((trL a k zs ds).length : Nat) : Int) + ((ds.length : Nat) : Int) + 4 * (((trG a k zs ds).length : Nat) : Int)) := p82.at hs (by decide)
      replace hs := p82.st hs
      refine q_val rfl rfl ?_
      refine g_move rfl ((p82.ne rfl).trans s12) ?_
      intro a83 p83
      have s85 : a83.eval (.tmp 85) = .int .i64 (1 + 4 * (((trL a k zs ds).length : Nat) : Int) + ((ds.length : Nat) : Int) + 4 * (((trG a k zs ds).length : Nat) : Int)) := p83.at hs (by decide)
      replace hs := p83.st hs
      refine q_val rfl rfl ?_
      refine g_neq rfl ((p83.ne rfl).trans s84) s85 ?_
      intro a84 p84
      have s86 : a84.eval (.tmp 86) = .bool false := (p84.at hs (by decide)).trans (congrArg (fun b => Value.bool (!b)) (decide_eq_true rfl))
      replace hs := p84.st hs
      refine wpList_nil ?_
      replace s0 : a84.eval (.tmp 0) = .agg #[.int .i64 a, .slice A zs.length cp, .slice B ds.length dp] := ((p84.ne rfl).trans ((p83.ne rfl).trans (p82.ne rfl))).trans s0
      replace s1 : a84.eval (.tmp 1) = .int .i64 k := ((p84.ne rfl).trans ((p83.ne rfl).trans (p82.ne rfl))).trans s1
      replace s2 : a84.eval (.tmp 2) = .pointer (some ⟨q2, 0, none⟩) := ((p84.ne rfl).trans ((p83.ne rfl).trans (p82.ne rfl))).trans s2
      replace s4 : a84.eval (.tmp 4) = .bool false := ((p84.ne rfl).trans ((p83.ne rfl).trans (p82.ne rfl))).trans s4
      replace s5 : a84.eval (.tmp 5) = .int .i64 q := ((p84.ne rfl).trans ((p83.ne rfl).trans (p82.ne rfl))).trans s5
      replace s6 : a84.eval (.tmp 6) = .pointer (some ⟨q17, 0, none⟩) := ((p84.ne rfl).trans ((p83.ne rfl).trans (p82.ne rfl))).trans s6
      replace s7 : a84.eval (.tmp 7) = .slice G15 ((trG a k zs ds).length) e15 := ((p84.ne rfl).trans ((p83.ne rfl).trans (p82.ne rfl))).trans s7
      replace s8 : a84.eval (.tmp 8) = .pointer (some ⟨q23, 0, none⟩) := ((p84.ne rfl).trans ((p83.ne rfl).trans (p82.ne rfl))).trans s8
      replace s9 : a84.eval (.tmp 9) = .pointer (some ⟨q29, 0, none⟩) := ((p84.ne rfl).trans ((p83.ne rfl).trans (p82.ne rfl))).trans s9
      replace s10 : a84.eval (.tmp 10) = .slice G27 ((trG a k zs ds).length) e27 := ((p84.ne rfl).trans ((p83.ne rfl).trans (p82.ne rfl))).trans s10
      replace s20 : a84.eval (.tmp 20) = .bool false := ((p84.ne rfl).trans ((p83.ne rfl).trans (p82.ne rfl))).trans s20
      replace s45 : a84.eval (.tmp 45) = .bool false := ((p84.ne rfl).trans ((p83.ne rfl).trans (p82.ne rfl))).trans s45
      replace s50 : a84.eval (.tmp 50) = .bool false := ((p84.ne rfl).trans ((p83.ne rfl).trans (p82.ne rfl))).trans s50
      replace s11 : a84.eval (.tmp 11) = .int .i64 (1 + 4 * ((zs.length : Nat) : Int) + ((ds.length : Nat) : Int)) := ((p84.ne rfl).trans ((p83.ne rfl).trans (p82.ne rfl))).trans s11
      replace s67 : a84.eval (.tmp 67) = .bool false := ((p84.ne rfl).trans ((p83.ne rfl).trans (p82.ne rfl))).trans s67
      replace s12 : a84.eval (.tmp 12) = .int .i64 (1 + 4 * (((trL a k zs ds).length : Nat) : Int) + ((ds.length : Nat) : Int) + 4 * (((trG a k zs ds).length : Nat) : Int)) := ((p84.ne rfl).trans ((p83.ne rfl).trans (p82.ne rfl))).trans s12
      replace s13 : a84.eval (.tmp 13) = .int .i64 (1 + 4 * (((trL a k zs ds).length : Nat) : Int) + ((ds.length : Nat) : Int) + 4 * (((trG a k zs ds).length : Nat) : Int)) := ((p84.ne rfl).trans ((p83.ne rfl).trans (p82.ne rfl))).trans s13
      replace s78 : a84.eval (.tmp 78) = .bool false := ((p84.ne rfl).trans ((p83.ne rfl).trans (p82.ne rfl))).trans s78
      replace s83 : a84.eval (.tmp 83) = .bool false := ((p84.ne rfl).trans ((p83.ne rfl).trans (p82.ne rfl))).trans s83
      refine hK69 _ _ ?_
      clear hK69
      refine c_false s86 ?_
      refine wp_skip ?_
      refine hK68 _ _ ?_
      clear hK68
      refine wp_seq_k fun K70 hK70 => ?_
      refine wp_region_lit ?_
      refine q_val rfl rfl ?_
      refine g_loadB rfl s2 Try.isAgg61 Try.sizeOf61 rfl h_q2 ?_
      intro a85 p85
      have s88 : a85.eval (.tmp 88) = .agg #[.int .i64 a, .slice A zs.length cp, .slice B ds.length dp] := p85.at hs (by decide)
      replace hs := p85.st hs
      refine q_val rfl rfl ?_
      refine g_call rfl rfl Try.call42 (arr1 s88) ?_
      refine (toRecorder_any _ _ _ _ _ _ _ zs ds _ rfl hm1 (hr_z.below hB) rfl hm2 (hr_d.below hB)).mono ?_
      rintro e w72 ⟨g71, i71, rfl, o_z71, o_y71, _, hb71⟩
      refine ⟨_, rfl, ?_⟩
      have m_z71_y71 := own_ne_type o_z71 o_y71 (by decide)
      have m_y71_z71 := ne_row_symm m_z71_y71
      have d_z71_q2 := own_ne_box o_z71 (lt_of_block h_q2)
      have d_z71_q17 := own_ne_box o_z71 (lt_of_block h_q17)
      have d_z71_q23 := own_ne_box o_z71 (lt_of_block h_q23)
      have d_z71_q29 := own_ne_box o_z71 (lt_of_block h_q29)
      have m_z13_z71 := own_ne_row o_z13 o_z71 (Nat.le_refl _)
      have m_z71_z13 := ne_row_symm m_z13_z71
      have m_y13_z71 := own_ne_row o_y13 o_z71 (Nat.le_refl _)
      have m_z71_y13 := ne_row_symm m_y13_z71
      have m_z15_z71 := own_ne_row o_z15 o_z71 (Nat.le_refl _)
      have m_z71_z15 := ne_row_symm m_z15_z71
      have m_y15_z71 := own_ne_row o_y15 o_z71 (Nat.le_refl _)
      have m_z71_y15 := ne_row_symm m_y15_z71
      have m_x15_z71 := own_ne_row o_x15 o_z71 (Nat.le_refl _)
      have m_z71_x15 := ne_row_symm m_x15_z71
      have m_z21_z71 := own_ne_row o_z21 o_z71 (Nat.le_refl _)
      have m_z71_z21 := ne_row_symm m_z21_z71
      have m_y21_z71 := own_ne_row o_y21 o_z71 (Nat.le_refl _)
      have m_z71_y21 := ne_row_symm m_y21_z71
      have m_z27_z71 := own_ne_row o_z27 o_z71 (Nat.le_refl _)
      have m_z71_z27 := ne_row_symm m_z27_z71
      have m_y27_z71 := own_ne_row o_y27 o_z71 (Nat.le_refl _)
      have m_z71_y27 := ne_row_symm m_y27_z71
      have m_x27_z71 := own_ne_row o_x27 o_z71 (Nat.le_refl _)
      have m_z71_x27 := ne_row_symm m_x27_z71
      have m_z40_z71 := own_ne_row o_z40 o_z71 (Nat.le_refl _)
      have m_z71_z40 := ne_row_symm m_z40_z71
      have m_y40_z71 := own_ne_row o_y40 o_z71 (Nat.le_refl _)
      have m_z71_y40 := ne_row_symm m_y40_z71
      have g_z71 : ∀ b, ((some ⟨g71, 0, none⟩) : Option Addr).map (·.block) = some b → w.heap.size ≤ b := fun b h => Nat.le_trans hB.size (own_row o_z71 b h).1
      replace o_z71 := own_base (base := w.heap.size) o_z71 hB.size
      have d_y71_q2 := own_ne_box o_y71 (lt_of_block h_q2)
      have d_y71_q17 := own_ne_box o_y71 (lt_of_block h_q17)
      have d_y71_q23 := own_ne_box o_y71 (lt_of_block h_q23)
      have d_y71_q29 := own_ne_box o_y71 (lt_of_block h_q29)
      have m_z13_y71 := own_ne_row o_z13 o_y71 (Nat.le_refl _)
      have m_y71_z13 := ne_row_symm m_z13_y71
      have m_y13_y71 := own_ne_row o_y13 o_y71 (Nat.le_refl _)
      have m_y71_y13 := ne_row_symm m_y13_y71
      have m_z15_y71 := own_ne_row o_z15 o_y71 (Nat.le_refl _)
      have m_y71_z15 := ne_row_symm m_z15_y71
      have m_y15_y71 := own_ne_row o_y15 o_y71 (Nat.le_refl _)
      have m_y71_y15 := ne_row_symm m_y15_y71
      have m_x15_y71 := own_ne_row o_x15 o_y71 (Nat.le_refl _)
      have m_y71_x15 := ne_row_symm m_x15_y71
      have m_z21_y71 := own_ne_row o_z21 o_y71 (Nat.le_refl _)
      have m_y71_z21 := ne_row_symm m_z21_y71
      have m_y21_y71 := own_ne_row o_y21 o_y71 (Nat.le_refl _)
      have m_y71_y21 := ne_row_symm m_y21_y71
      have m_z27_y71 := own_ne_row o_z27 o_y71 (Nat.le_refl _)
      have m_y71_z27 := ne_row_symm m_z27_y71
      have m_y27_y71 := own_ne_row o_y27 o_y71 (Nat.le_refl _)
      have m_y71_y27 := ne_row_symm m_y27_y71
      have m_x27_y71 := own_ne_row o_x27 o_y71 (Nat.le_refl _)
      have m_y71_x27 := ne_row_symm m_x27_y71
      have m_z40_y71 := own_ne_row o_z40 o_y71 (Nat.le_refl _)
      have m_y71_z40 := ne_row_symm m_z40_y71
      have m_y40_y71 := own_ne_row o_y40 o_y71 (Nat.le_refl _)
      have m_y71_y40 := ne_row_symm m_y40_y71
      have g_y71 : ∀ b, ((some ⟨i71, 0, none⟩) : Option Addr).map (·.block) = some b → w.heap.size ≤ b := fun b h => Nat.le_trans hB.size (own_row o_y71 b h).1
      replace o_y71 := own_base (base := w.heap.size) o_y71 hB.size
      replace h_q2 := keep_below h_q2 hb71
      replace h_q17 := keep_below h_q17 hb71
      replace h_q23 := keep_below h_q23 hb71
      replace h_q29 := keep_below h_q29 hb71
      replace o_z13 := own_below o_z13 hb71
      replace o_y13 := own_below o_y13 hb71
      replace o_z15 := own_below o_z15 hb71
      replace o_y15 := own_below o_y15 hb71
      replace o_x15 := own_below o_x15 hb71
      replace o_z21 := own_below o_z21 hb71
      replace o_y21 := own_below o_y21 hb71
      replace o_z27 := own_below o_z27 hb71
      replace o_y27 := own_below o_y27 hb71
      replace o_x27 := own_below o_x27 hb71
      replace o_z40 := own_below o_z40 hb71
      replace o_y40 := own_below o_y40 hb71
      replace hB := hB.trans (hb71.mono hB.size)
      clear hb71
      intro a86 p86
      have s89 : a86.eval (.tmp 89) = .agg #[.int .i64 a, .slice (some ⟨g71, 0, none⟩) zs.length zs.length, .slice (some ⟨i71, 0, none⟩) ds.length ds.length] := p86.at hs (by decide)
      replace hs := p86.st hs
      refine q_val rfl rfl ?_
      refine g_move rfl (((p86.ne rfl).trans (p85.ne rfl)).trans s1) ?_
      intro a87 p87
      have s90 : a87.eval (.tmp 90) = .int .i64 k := p87.at hs (by decide)
      replace hs := p87.st hs
      refine q_val rfl rfl ?_
      refine g_call rfl rfl Try.call37 (arr2 ((p87.ne rfl).trans s89) s90) ?_
      refine (takeRecords_any _ _ _ _ _ _ _ _ zs ds _ rfl hm1 (own_cap o_z71).1 (by omega) hT (Rd.of_own o_z71) (own_nil o_z71) rfl hm2 (own_nil o_y71) (Rd.of_own o_y71)).mono ?_
      rintro e w74 ⟨_, rfl, ⟨A73, c73, B73, d73, G73, e73, rfl, o_z73, o_y73, o_x73, hm73⟩, hb73⟩
      refine ⟨_, rfl, ?_⟩
      have m_z73_y73 := own_ne_type o_z73 o_y73 (by decide)
      have m_y73_z73 := ne_row_symm m_z73_y73
      have m_z73_x73 := hm73
      have m_x73_z73 := ne_row_symm m_z73_x73
      have m_y73_x73 := own_ne_type o_y73 o_x73 (by decide)
      have m_x73_y73 := ne_row_symm m_y73_x73
      have d_z73_q2 := own_ne_box o_z73 (lt_of_block h_q2)
      have d_z73_q17 := own_ne_box o_z73 (lt_of_block h_q17)
      have d_z73_q23 := own_ne_box o_z73 (lt_of_block h_q23)
      have d_z73_q29 := own_ne_box o_z73 (lt_of_block h_q29)
      have m_z13_z73 := own_ne_row o_z13 o_z73 (Nat.le_refl _)
      have m_z73_z13 := ne_row_symm m_z13_z73
      have m_y13_z73 := own_ne_row o_y13 o_z73 (Nat.le_refl _)
      have m_z73_y13 := ne_row_symm m_y13_z73
      have m_z15_z73 := own_ne_row o_z15 o_z73 (Nat.le_refl _)
      have m_z73_z15 := ne_row_symm m_z15_z73
      have m_y15_z73 := own_ne_row o_y15 o_z73 (Nat.le_refl _)
      have m_z73_y15 := ne_row_symm m_y15_z73
      have m_x15_z73 := own_ne_row o_x15 o_z73 (Nat.le_refl _)
      have m_z73_x15 := ne_row_symm m_x15_z73
      have m_z21_z73 := own_ne_row o_z21 o_z73 (Nat.le_refl _)
      have m_z73_z21 := ne_row_symm m_z21_z73
      have m_y21_z73 := own_ne_row o_y21 o_z73 (Nat.le_refl _)
      have m_z73_y21 := ne_row_symm m_y21_z73
      have m_z27_z73 := own_ne_row o_z27 o_z73 (Nat.le_refl _)
      have m_z73_z27 := ne_row_symm m_z27_z73
      have m_y27_z73 := own_ne_row o_y27 o_z73 (Nat.le_refl _)
      have m_z73_y27 := ne_row_symm m_y27_z73
      have m_x27_z73 := own_ne_row o_x27 o_z73 (Nat.le_refl _)
      have m_z73_x27 := ne_row_symm m_x27_z73
      have m_z40_z73 := own_ne_row o_z40 o_z73 (Nat.le_refl _)
      have m_z73_z40 := ne_row_symm m_z40_z73
      have m_y40_z73 := own_ne_row o_y40 o_z73 (Nat.le_refl _)
      have m_z73_y40 := ne_row_symm m_y40_z73
      have m_z71_z73 := own_ne_row o_z71 o_z73 (Nat.le_refl _)
      have m_z73_z71 := ne_row_symm m_z71_z73
      have m_y71_z73 := own_ne_row o_y71 o_z73 (Nat.le_refl _)
      have m_z73_y71 := ne_row_symm m_y71_z73
      have g_z73 : ∀ b, (A73 : Option Addr).map (·.block) = some b → w.heap.size ≤ b := fun b h => Nat.le_trans hB.size (own_row o_z73 b h).1
      replace o_z73 := own_base (base := w.heap.size) o_z73 hB.size
      have d_y73_q2 := own_ne_box o_y73 (lt_of_block h_q2)
      have d_y73_q17 := own_ne_box o_y73 (lt_of_block h_q17)
      have d_y73_q23 := own_ne_box o_y73 (lt_of_block h_q23)
      have d_y73_q29 := own_ne_box o_y73 (lt_of_block h_q29)
      have m_z13_y73 := own_ne_row o_z13 o_y73 (Nat.le_refl _)
      have m_y73_z13 := ne_row_symm m_z13_y73
      have m_y13_y73 := own_ne_row o_y13 o_y73 (Nat.le_refl _)
      have m_y73_y13 := ne_row_symm m_y13_y73
      have m_z15_y73 := own_ne_row o_z15 o_y73 (Nat.le_refl _)
      have m_y73_z15 := ne_row_symm m_z15_y73
      have m_y15_y73 := own_ne_row o_y15 o_y73 (Nat.le_refl _)
      have m_y73_y15 := ne_row_symm m_y15_y73
      have m_x15_y73 := own_ne_row o_x15 o_y73 (Nat.le_refl _)
      have m_y73_x15 := ne_row_symm m_x15_y73
      have m_z21_y73 := own_ne_row o_z21 o_y73 (Nat.le_refl _)
      have m_y73_z21 := ne_row_symm m_z21_y73
      have m_y21_y73 := own_ne_row o_y21 o_y73 (Nat.le_refl _)
      have m_y73_y21 := ne_row_symm m_y21_y73
      have m_z27_y73 := own_ne_row o_z27 o_y73 (Nat.le_refl _)
      have m_y73_z27 := ne_row_symm m_z27_y73
      have m_y27_y73 := own_ne_row o_y27 o_y73 (Nat.le_refl _)
      have m_y73_y27 := ne_row_symm m_y27_y73
      have m_x27_y73 := own_ne_row o_x27 o_y73 (Nat.le_refl _)
      have m_y73_x27 := ne_row_symm m_x27_y73
      have m_z40_y73 := own_ne_row o_z40 o_y73 (Nat.le_refl _)
      have m_y73_z40 := ne_row_symm m_z40_y73
      have m_y40_y73 := own_ne_row o_y40 o_y73 (Nat.le_refl _)
      have m_y73_y40 := ne_row_symm m_y40_y73
      have m_z71_y73 := own_ne_row o_z71 o_y73 (Nat.le_refl _)
      have m_y73_z71 := ne_row_symm m_z71_y73
      have m_y71_y73 := own_ne_row o_y71 o_y73 (Nat.le_refl _)
      have m_y73_y71 := ne_row_symm m_y71_y73
      have g_y73 : ∀ b, (B73 : Option Addr).map (·.block) = some b → w.heap.size ≤ b := fun b h => Nat.le_trans hB.size (own_row o_y73 b h).1
      replace o_y73 := own_base (base := w.heap.size) o_y73 hB.size
      have d_x73_q2 := own_ne_box o_x73 (lt_of_block h_q2)
      have d_x73_q17 := own_ne_box o_x73 (lt_of_block h_q17)
      have d_x73_q23 := own_ne_box o_x73 (lt_of_block h_q23)
      have d_x73_q29 := own_ne_box o_x73 (lt_of_block h_q29)
      have m_z13_x73 := own_ne_row o_z13 o_x73 (Nat.le_refl _)
      have m_x73_z13 := ne_row_symm m_z13_x73
      have m_y13_x73 := own_ne_row o_y13 o_x73 (Nat.le_refl _)
      have m_x73_y13 := ne_row_symm m_y13_x73
      have m_z15_x73 := own_ne_row o_z15 o_x73 (Nat.le_refl _)
      have m_x73_z15 := ne_row_symm m_z15_x73
      have m_y15_x73 := own_ne_row o_y15 o_x73 (Nat.le_refl _)
      have m_x73_y15 := ne_row_symm m_y15_x73
      have m_x15_x73 := own_ne_row o_x15 o_x73 (Nat.le_refl _)
      have m_x73_x15 := ne_row_symm m_x15_x73
      have m_z21_x73 := own_ne_row o_z21 o_x73 (Nat.le_refl _)
      have m_x73_z21 := ne_row_symm m_z21_x73
      have m_y21_x73 := own_ne_row o_y21 o_x73 (Nat.le_refl _)
      have m_x73_y21 := ne_row_symm m_y21_x73
      have m_z27_x73 := own_ne_row o_z27 o_x73 (Nat.le_refl _)
      have m_x73_z27 := ne_row_symm m_z27_x73
      have m_y27_x73 := own_ne_row o_y27 o_x73 (Nat.le_refl _)
      have m_x73_y27 := ne_row_symm m_y27_x73
      have m_x27_x73 := own_ne_row o_x27 o_x73 (Nat.le_refl _)
      have m_x73_x27 := ne_row_symm m_x27_x73
      have m_z40_x73 := own_ne_row o_z40 o_x73 (Nat.le_refl _)
      have m_x73_z40 := ne_row_symm m_z40_x73
      have m_y40_x73 := own_ne_row o_y40 o_x73 (Nat.le_refl _)
      have m_x73_y40 := ne_row_symm m_y40_x73
      have m_z71_x73 := own_ne_row o_z71 o_x73 (Nat.le_refl _)
      have m_x73_z71 := ne_row_symm m_z71_x73
      have m_y71_x73 := own_ne_row o_y71 o_x73 (Nat.le_refl _)
      have m_x73_y71 := ne_row_symm m_y71_x73
      have g_x73 : ∀ b, (G73 : Option Addr).map (·.block) = some b → w.heap.size ≤ b := fun b h => Nat.le_trans hB.size (own_row o_x73 b h).1
      replace o_x73 := own_base (base := w.heap.size) o_x73 hB.size
      replace h_q2 := keep_below h_q2 hb73
      replace h_q17 := keep_below h_q17 hb73
      replace h_q23 := keep_below h_q23 hb73
      replace h_q29 := keep_below h_q29 hb73
      replace o_z13 := own_below o_z13 hb73
      replace o_y13 := own_below o_y13 hb73
      replace o_z15 := own_below o_z15 hb73
      replace o_y15 := own_below o_y15 hb73
      replace o_x15 := own_below o_x15 hb73
      replace o_z21 := own_below o_z21 hb73
      replace o_y21 := own_below o_y21 hb73
      replace o_z27 := own_below o_z27 hb73
      replace o_y27 := own_below o_y27 hb73
      replace o_x27 := own_below o_x27 hb73
      replace o_z40 := own_below o_z40 hb73
      replace o_y40 := own_below o_y40 hb73
      replace o_z71 := own_below o_z71 hb73
      replace o_y71 := own_below o_y71 hb73
      replace hB := hB.trans (hb73.mono hB.size)
      clear hb73
      intro a88 p88
      have s91 : a88.eval (.tmp 91) = .tuple #[.agg #[.int .i64 a, .slice A73 ((trL a k zs ds).length) c73, .slice B73 ds.length d73], .slice G73 ((trG a k zs ds).length) e73] := p88.at hs (by decide)
      replace hs := p88.st hs
      refine q_val rfl rfl ?_
      refine g_move rfl s91 ?_
      intro a89 p89
      have s87 : a89.eval (.tmp 87) = .tuple #[.agg #[.int .i64 a, .slice A73 ((trL a k zs ds).length) c73, .slice B73 ds.length d73], .slice G73 ((trG a k zs ds).length) e73] := p89.at hs (by decide)
      replace hs := p89.st hs
      refine q_val rfl rfl ?_
      refine g_extract rfl s87 rfl ?_
      intro a90 p90
      have s92 : a90.eval (.tmp 92) = .agg #[.int .i64 a, .slice A73 ((trL a k zs ds).length) c73, .slice B73 ds.length d73] := p90.at hs (by decide)
      replace hs := p90.st hs
      refine q_val rfl rfl ?_
      refine g_extract rfl ((p90.ne rfl).trans s87) rfl ?_
      intro a91 p91
      have s93 : a91.eval (.tmp 93) = .slice G73 ((trG a k zs ds).length) e73 := p91.at hs (by decide)
      replace hs := p91.st hs
      refine q_val rfl rfl ?_
      refine g_alloc rfl Try.zeroValue50 rfl ?_
      intro q75 w76 N_q75
      have n_q2_q75 := N_q75.ne ⟨lt_of_block h_q2⟩
      have n_q75_q2 := n_q2_q75.symm
      have n_q17_q75 := N_q75.ne ⟨lt_of_block h_q17⟩
      have n_q75_q17 := n_q17_q75.symm
      have n_q23_q75 := N_q75.ne ⟨lt_of_block h_q23⟩
      have n_q75_q23 := n_q23_q75.symm
      have n_q29_q75 := N_q75.ne ⟨lt_of_block h_q29⟩
      have n_q75_q29 := n_q29_q75.symm
      have d_z13_q75 := own_ne_new o_z13 N_q75
      have d_y13_q75 := own_ne_new o_y13 N_q75
      have d_z15_q75 := own_ne_new o_z15 N_q75
      have d_y15_q75 := own_ne_new o_y15 N_q75
      have d_x15_q75 := own_ne_new o_x15 N_q75
      have d_z21_q75 := own_ne_new o_z21 N_q75
      have d_y21_q75 := own_ne_new o_y21 N_q75
      have d_z27_q75 := own_ne_new o_z27 N_q75
      have d_y27_q75 := own_ne_new o_y27 N_q75
      have d_x27_q75 := own_ne_new o_x27 N_q75
      have d_z40_q75 := own_ne_new o_z40 N_q75
      have d_y40_q75 := own_ne_new o_y40 N_q75
      have d_z71_q75 := own_ne_new o_z71 N_q75
      have d_y71_q75 := own_ne_new o_y71 N_q75
      have d_z73_q75 := own_ne_new o_z73 N_q75
      have d_y73_q75 := own_ne_new o_y73 N_q75
      have d_x73_q75 := own_ne_new o_x73 N_q75
      have g_q75 := Nat.le_trans hB.size N_q75.lo
      replace h_q2 := keep_below h_q2 N_q75.below
      replace h_q17 := keep_below h_q17 N_q75.below
      replace h_q23 := keep_below h_q23 N_q75.below
      replace h_q29 := keep_below h_q29 N_q75.below
      replace o_z13 := own_below o_z13 N_q75.below
      replace o_y13 := own_below o_y13 N_q75.below
      replace o_z15 := own_below o_z15 N_q75.below
      replace o_y15 := own_below o_y15 N_q75.below
      replace o_x15 := own_below o_x15 N_q75.below
      replace o_z21 := own_below o_z21 N_q75.below
      replace o_y21 := own_below o_y21 N_q75.below
      replace o_z27 := own_below o_z27 N_q75.below
      replace o_y27 := own_below o_y27 N_q75.below
      replace o_x27 := own_below o_x27 N_q75.below
      replace o_z40 := own_below o_z40 N_q75.below
      replace o_y40 := own_below o_y40 N_q75.below
      replace o_z71 := own_below o_z71 N_q75.below
      replace o_y71 := own_below o_y71 N_q75.below
      replace o_z73 := own_below o_z73 N_q75.below
      replace o_y73 := own_below o_y73 N_q75.below
      replace o_x73 := own_below o_x73 N_q75.below
      replace hB := below_new hB hB.size N_q75
      have h_q75 := N_q75.here
      clear N_q75
      intro a92 p92
      have s14 : a92.eval (.tmp 14) = .pointer (some ⟨q75, 0, none⟩) := p92.at hs (by decide)
      replace hs := p92.st hs
      refine q_eff rfl rfl ?_
      refine g_storeB rfl s14 (((p92.ne rfl).trans (p91.ne rfl)).trans s92) Try.sizeOf50 rfl rfl h_q75 rfl ?_
      intro w77 W_w77
      replace h_q2 := keep_wrote h_q2 W_w77 n_q75_q2
      replace h_q17 := keep_wrote h_q17 W_w77 n_q75_q17
      replace h_q23 := keep_wrote h_q23 W_w77 n_q75_q23
      replace h_q29 := keep_wrote h_q29 W_w77 n_q75_q29
      replace h_q75 := W_w77.here
      replace o_z13 := own_wrote o_z13 W_w77 d_z13_q75
      replace o_y13 := own_wrote o_y13 W_w77 d_y13_q75
      replace o_z15 := own_wrote o_z15 W_w77 d_z15_q75
      replace o_y15 := own_wrote o_y15 W_w77 d_y15_q75
      replace o_x15 := own_wrote o_x15 W_w77 d_x15_q75
      replace o_z21 := own_wrote o_z21 W_w77 d_z21_q75
      replace o_y21 := own_wrote o_y21 W_w77 d_y21_q75
      replace o_z27 := own_wrote o_z27 W_w77 d_z27_q75
      replace o_y27 := own_wrote o_y27 W_w77 d_y27_q75
      replace o_x27 := own_wrote o_x27 W_w77 d_x27_q75
      replace o_z40 := own_wrote o_z40 W_w77 d_z40_q75
      replace o_y40 := own_wrote o_y40 W_w77 d_y40_q75
      replace o_z71 := own_wrote o_z71 W_w77 d_z71_q75
      replace o_y71 := own_wrote o_y71 W_w77 d_y71_q75
      replace o_z73 := own_wrote o_z73 W_w77 d_z73_q75
      replace o_y73 := own_wrote o_y73 W_w77 d_y73_q75
      replace o_x73 := own_wrote o_x73 W_w77 d_x73_q75
      replace hB := below_wrote hB hB.size W_w77 g_q75
      clear W_w77
      refine q_val rfl rfl ?_
      refine g_assign rfl ((p92.ne rfl).trans s93) ?_
      intro a93 p93
      have s15 : a93.eval (.tmp 15) = .slice G73 ((trG a k zs ds).length) e73 := p93.at hs (by decide)
      replace hs := p93.st hs
      refine wpList_nil ?_
      replace s0 : a93.eval (.tmp 0) = .agg #[.int .i64 a, .slice A zs.length cp, .slice B ds.length dp] := ((p93.ne rfl).trans ((p92.ne rfl).trans ((p91.ne rfl).trans ((p90.ne rfl).trans ((p89.ne rfl).trans ((p88.ne rfl).trans ((p87.ne rfl).trans ((p86.ne rfl).trans (p85.ne rfl))))))))).trans s0
      replace s1 : a93.eval (.tmp 1) = .int .i64 k := ((p93.ne rfl).trans ((p92.ne rfl).trans ((p91.ne rfl).trans ((p90.ne rfl).trans ((p89.ne rfl).trans ((p88.ne rfl).trans ((p87.ne rfl).trans ((p86.ne rfl).trans (p85.ne rfl))))))))).trans s1
      replace s2 : a93.eval (.tmp 2) = .pointer (some ⟨q2, 0, none⟩) := ((p93.ne rfl).trans ((p92.ne rfl).trans ((p91.ne rfl).trans ((p90.ne rfl).trans ((p89.ne rfl).trans ((p88.ne rfl).trans ((p87.ne rfl).trans ((p86.ne rfl).trans (p85.ne rfl))))))))).trans s2
      replace s4 : a93.eval (.tmp 4) = .bool false := ((p93.ne rfl).trans ((p92.ne rfl).trans ((p91.ne rfl).trans ((p90.ne rfl).trans ((p89.ne rfl).trans ((p88.ne rfl).trans ((p87.ne rfl).trans ((p86.ne rfl).trans (p85.ne rfl))))))))).trans s4
      replace s5 : a93.eval (.tmp 5) = .int .i64 q := ((p93.ne rfl).trans ((p92.ne rfl).trans ((p91.ne rfl).trans ((p90.ne rfl).trans ((p89.ne rfl).trans ((p88.ne rfl).trans ((p87.ne rfl).trans ((p86.ne rfl).trans (p85.ne rfl))))))))).trans s5
      replace s6 : a93.eval (.tmp 6) = .pointer (some ⟨q17, 0, none⟩) := ((p93.ne rfl).trans ((p92.ne rfl).trans ((p91.ne rfl).trans ((p90.ne rfl).trans ((p89.ne rfl).trans ((p88.ne rfl).trans ((p87.ne rfl).trans ((p86.ne rfl).trans (p85.ne rfl))))))))).trans s6
      replace s7 : a93.eval (.tmp 7) = .slice G15 ((trG a k zs ds).length) e15 := ((p93.ne rfl).trans ((p92.ne rfl).trans ((p91.ne rfl).trans ((p90.ne rfl).trans ((p89.ne rfl).trans ((p88.ne rfl).trans ((p87.ne rfl).trans ((p86.ne rfl).trans (p85.ne rfl))))))))).trans s7
      replace s8 : a93.eval (.tmp 8) = .pointer (some ⟨q23, 0, none⟩) := ((p93.ne rfl).trans ((p92.ne rfl).trans ((p91.ne rfl).trans ((p90.ne rfl).trans ((p89.ne rfl).trans ((p88.ne rfl).trans ((p87.ne rfl).trans ((p86.ne rfl).trans (p85.ne rfl))))))))).trans s8
      replace s9 : a93.eval (.tmp 9) = .pointer (some ⟨q29, 0, none⟩) := ((p93.ne rfl).trans ((p92.ne rfl).trans ((p91.ne rfl).trans ((p90.ne rfl).trans ((p89.ne rfl).trans ((p88.ne rfl).trans ((p87.ne rfl).trans ((p86.ne rfl).trans (p85.ne rfl))))))))).trans s9
      replace s10 : a93.eval (.tmp 10) = .slice G27 ((trG a k zs ds).length) e27 := ((p93.ne rfl).trans ((p92.ne rfl).trans ((p91.ne rfl).trans ((p90.ne rfl).trans ((p89.ne rfl).trans ((p88.ne rfl).trans ((p87.ne rfl).trans ((p86.ne rfl).trans (p85.ne rfl))))))))).trans s10
      replace s20 : a93.eval (.tmp 20) = .bool false := ((p93.ne rfl).trans ((p92.ne rfl).trans ((p91.ne rfl).trans ((p90.ne rfl).trans ((p89.ne rfl).trans ((p88.ne rfl).trans ((p87.ne rfl).trans ((p86.ne rfl).trans (p85.ne rfl))))))))).trans s20
      replace s45 : a93.eval (.tmp 45) = .bool false := ((p93.ne rfl).trans ((p92.ne rfl).trans ((p91.ne rfl).trans ((p90.ne rfl).trans ((p89.ne rfl).trans ((p88.ne rfl).trans ((p87.ne rfl).trans ((p86.ne rfl).trans (p85.ne rfl))))))))).trans s45
      replace s50 : a93.eval (.tmp 50) = .bool false := ((p93.ne rfl).trans ((p92.ne rfl).trans ((p91.ne rfl).trans ((p90.ne rfl).trans ((p89.ne rfl).trans ((p88.ne rfl).trans ((p87.ne rfl).trans ((p86.ne rfl).trans (p85.ne rfl))))))))).trans s50
      replace s11 : a93.eval (.tmp 11) = .int .i64 (1 + 4 * ((zs.length : Nat) : Int) + ((ds.length : Nat) : Int)) := ((p93.ne rfl).trans ((p92.ne rfl).trans ((p91.ne rfl).trans ((p90.ne rfl).trans ((p89.ne rfl).trans ((p88.ne rfl).trans ((p87.ne rfl).trans ((p86.ne rfl).trans (p85.ne rfl))))))))).trans s11
      replace s67 : a93.eval (.tmp 67) = .bool false := ((p93.ne rfl).trans ((p92.ne rfl).trans ((p91.ne rfl).trans ((p90.ne rfl).trans ((p89.ne rfl).trans ((p88.ne rfl).trans ((p87.ne rfl).trans ((p86.ne rfl).trans (p85.ne rfl))))))))).trans s67
      replace s12 : a93.eval (.tmp 12) = .int .i64 (1 + 4 * (((trL a k zs ds).length : Nat) : Int) + ((ds.length : Nat) : Int) + 4 * (((trG a k zs ds).length : Nat) : Int)) := ((p93.ne rfl).trans ((p92.ne rfl).trans ((p91.ne rfl).trans ((p90.ne rfl).trans ((p89.ne rfl).trans ((p88.ne rfl).trans ((p87.ne rfl).trans ((p86.ne rfl).trans (p85.ne rfl))))))))).trans s12
      replace s13 : a93.eval (.tmp 13) = .int .i64 (1 + 4 * (((trL a k zs ds).length : Nat) : Int) + ((ds.length : Nat) : Int) + 4 * (((trG a k zs ds).length : Nat) : Int)) := ((p93.ne rfl).trans ((p92.ne rfl).trans ((p91.ne rfl).trans ((p90.ne rfl).trans ((p89.ne rfl).trans ((p88.ne rfl).trans ((p87.ne rfl).trans ((p86.ne rfl).trans (p85.ne rfl))))))))).trans s13
      replace s78 : a93.eval (.tmp 78) = .bool false := ((p93.ne rfl).trans ((p92.ne rfl).trans ((p91.ne rfl).trans ((p90.ne rfl).trans ((p89.ne rfl).trans ((p88.ne rfl).trans ((p87.ne rfl).trans ((p86.ne rfl).trans (p85.ne rfl))))))))).trans s78
      replace s83 : a93.eval (.tmp 83) = .bool false := ((p93.ne rfl).trans ((p92.ne rfl).trans ((p91.ne rfl).trans ((p90.ne rfl).trans ((p89.ne rfl).trans ((p88.ne rfl).trans ((p87.ne rfl).trans ((p86.ne rfl).trans (p85.ne rfl))))))))).trans s83
      replace s86 : a93.eval (.tmp 86) = .bool false := ((p93.ne rfl).trans ((p92.ne rfl).trans ((p91.ne rfl).trans ((p90.ne rfl).trans ((p89.ne rfl).trans ((p88.ne rfl).trans ((p87.ne rfl).trans ((p86.ne rfl).trans (p85.ne rfl))))))))).trans s86
      replace s14 : a93.eval (.tmp 14) = .pointer (some ⟨q75, 0, none⟩) := (p93.ne rfl).trans s14
      refine hK70 _ _ ?_
      clear hK70
      refine wp_seq_k fun K78 hK78 => ?_
      refine wp_seq_k fun K79 hK79 => ?_
      refine wp_region_lit ?_
      refine q_val rfl rfl ?_
      refine g_loadB rfl s14 Try.isAgg50 Try.sizeOf50 rfl h_q75 ?_
      intro a94 p94
      have s94 : a94.eval (.tmp 94) = .agg #[.int .i64 a, .slice A73 ((trL a k zs ds).length) c73, .slice B73 ds.length d73] := p94.at hs (by decide)
      replace hs := p94.st hs
      refine q_val rfl rfl ?_
      refine g_loadB rfl ((p94.ne rfl).trans s6) Try.isAgg50 Try.sizeOf50 rfl h_q17 ?_
      intro a95 p95
      have s95 : a95.eval (.tmp 95) = .agg #[.int .i64 a, .slice A15 ((trL a k zs ds).length) c15, .slice B15 ds.length d15] := p95.at hs (by decide)
      replace hs := p95.st hs
      refine q_val rfl rfl ?_
      refine g_call rfl rfl Try.call43 (arr2 ((p95.ne rfl).trans s94) s95) ?_
      refine (eqRecorder_same _ _ _ _ _ _ _ _ _ _ _ _ _ (trL a k zs ds) ds _ rfl rfl (by omega) rfl rfl (by omega) (Rd.of_own o_z73) (Rd.of_own o_z15) (Rd.of_own o_y73) (Rd.of_own o_y15)).mono ?_
      rintro e w81 ⟨rfl, hb80⟩
      refine ⟨_, rfl, ?_⟩
      replace h_q2 := keep_below h_q2 hb80
      replace h_q17 := keep_below h_q17 hb80
      replace h_q23 := keep_below h_q23 hb80
      replace h_q29 := keep_below h_q29 hb80
      replace h_q75 := keep_below h_q75 hb80
      replace o_z13 := own_below o_z13 hb80
      replace o_y13 := own_below o_y13 hb80
      replace o_z15 := own_below o_z15 hb80
      replace o_y15 := own_below o_y15 hb80
      replace o_x15 := own_below o_x15 hb80
      replace o_z21 := own_below o_z21 hb80
      replace o_y21 := own_below o_y21 hb80
      replace o_z27 := own_below o_z27 hb80
      replace o_y27 := own_below o_y27 hb80
      replace o_x27 := own_below o_x27 hb80
      replace o_z40 := own_below o_z40 hb80
      replace o_y40 := own_below o_y40 hb80
      replace o_z71 := own_below o_z71 hb80
      replace o_y71 := own_below o_y71 hb80
      replace o_z73 := own_below o_z73 hb80
      replace o_y73 := own_below o_y73 hb80
      replace o_x73 := own_below o_x73 hb80
      replace hB := hB.trans (hb80.mono hB.size)
      clear hb80
      intro a96 p96
      have s96 : a96.eval (.tmp 96) = .bool true := p96.at hs (by decide)
      replace hs := p96.st hs
      refine q_val rfl rfl ?_
      refine g_not rfl s96 ?_
      intro a97 p97
      have s97 : a97.eval (.tmp 97) = .bool false := p97.at hs (by decide)
      replace hs := p97.st hs
      refine q_val rfl rfl ?_
      refine g_move rfl s97 ?_
      intro a98 p98
      have s98 : a98.eval (.tmp 98) = .bool false := p98.at hs (by decide)
      replace hs := p98.st hs
      refine q_take rfl rfl s98 rfl ?_
      refine g_move rfl (((p98.ne rfl).trans ((p97.ne rfl).trans ((p96.ne rfl).trans ((p95.ne rfl).trans (p94.ne rfl))))).trans s15) ?_
      intro a99 p99
      have s99 : a99.eval (.tmp 99) = .slice G73 ((trG a k zs ds).length) e73 := p99.at hs (by decide)
      replace hs := p99.st hs
      refine q_take rfl rfl ((p99.ne rfl).trans s98) rfl ?_
      refine g_move rfl (((p99.ne rfl).trans ((p98.ne rfl).trans ((p97.ne rfl).trans ((p96.ne rfl).trans ((p95.ne rfl).trans (p94.ne rfl)))))).trans s7) ?_
      intro a100 p100
      have s100 : a100.eval (.tmp 100) = .slice G15 ((trG a k zs ds).length) e15 := p100.at hs (by decide)
      replace hs := p100.st hs
      refine q_take rfl rfl (((p100.ne rfl).trans (p99.ne rfl)).trans s98) rfl ?_
      refine g_call rfl rfl Try.call46 (arr2 ((p100.ne rfl).trans s99) s100) ?_
      refine (eqRecordS_same _ _ _ _ _ _ (trG a k zs ds) _ rfl rfl (by omega) (Rd.of_own o_x73) (Rd.of_own o_x15)).mono ?_
      rintro e w83 ⟨rfl, hb82⟩
      refine ⟨_, rfl, ?_⟩
      replace h_q2 := keep_below h_q2 hb82
      replace h_q17 := keep_below h_q17 hb82
      replace h_q23 := keep_below h_q23 hb82
      replace h_q29 := keep_below h_q29 hb82
      replace h_q75 := keep_below h_q75 hb82
      replace o_z13 := own_below o_z13 hb82
      replace o_y13 := own_below o_y13 hb82
      replace o_z15 := own_below o_z15 hb82
      replace o_y15 := own_below o_y15 hb82
      replace o_x15 := own_below o_x15 hb82
      replace o_z21 := own_below o_z21 hb82
      replace o_y21 := own_below o_y21 hb82
      replace o_z27 := own_below o_z27 hb82
      replace o_y27 := own_below o_y27 hb82
      replace o_x27 := own_below o_x27 hb82
      replace o_z40 := own_below o_z40 hb82
      replace o_y40 := own_below o_y40 hb82
      replace o_z71 := own_below o_z71 hb82
      replace o_y71 := own_below o_y71 hb82
      replace o_z73 := own_below o_z73 hb82
      replace o_y73 := own_below o_y73 hb82
      replace o_x73 := own_below o_x73 hb82
      replace hB := hB.trans (hb82.mono hB.size)
      clear hb82
      intro a101 p101
      have s101 : a101.eval (.tmp 101) = .bool true := p101.at hs (by decide)
      replace hs := p101.st hs
      refine q_take rfl rfl (((p101.ne rfl).trans ((p100.ne rfl).trans (p99.ne rfl))).trans s98) rfl ?_
      refine g_not rfl s101 ?_
      intro a102 p102
      have s102 : a102.eval (.tmp 102) = .bool false := p102.at hs (by decide)
      replace hs := p102.st hs
      refine q_val rfl rfl ?_
      refine g_pick_f rfl (((p102.ne rfl).trans ((p101.ne rfl).trans ((p100.ne rfl).trans (p99.ne rfl)))).trans s98) s102 ?_
      intro a103 p103
      have s103 : a103.eval (.tmp 103) = .bool false := p103.at hs (by decide)
      replace hs := p103.st hs
      refine wpList_nil ?_
      replace s0 : a103.eval (.tmp 0) = .agg #[.int .i64 a, .slice A zs.length cp, .slice B ds.length dp] := ((p103.ne rfl).trans ((p102.ne rfl).trans ((p101.ne rfl).trans ((p100.ne rfl).trans ((p99.ne rfl).trans ((p98.ne rfl).trans ((p97.ne rfl).trans ((p96.ne rfl).trans ((p95.ne rfl).trans (p94.ne rfl)))))))))).trans s0
      replace s1 : a103.eval (.tmp 1) = .int .i64 k := ((p103.ne rfl).trans ((p102.ne rfl).trans ((p101.ne rfl).trans ((p100.ne rfl).trans ((p99.ne rfl).trans ((p98.ne rfl).trans ((p97.ne rfl).trans ((p96.ne rfl).trans ((p95.ne rfl).trans (p94.ne rfl)))))))))).trans s1
      replace s2 : a103.eval (.tmp 2) = .pointer (some ⟨q2, 0, none⟩) := ((p103.ne rfl).trans ((p102.ne rfl).trans ((p101.ne rfl).trans ((p100.ne rfl).trans ((p99.ne rfl).trans ((p98.ne rfl).trans ((p97.ne rfl).trans ((p96.ne rfl).trans ((p95.ne rfl).trans (p94.ne rfl)))))))))).trans s2
      replace s4 : a103.eval (.tmp 4) = .bool false := ((p103.ne rfl).trans ((p102.ne rfl).trans ((p101.ne rfl).trans ((p100.ne rfl).trans ((p99.ne rfl).trans ((p98.ne rfl).trans ((p97.ne rfl).trans ((p96.ne rfl).trans ((p95.ne rfl).trans (p94.ne rfl)))))))))).trans s4
      replace s5 : a103.eval (.tmp 5) = .int .i64 q := ((p103.ne rfl).trans ((p102.ne rfl).trans ((p101.ne rfl).trans ((p100.ne rfl).trans ((p99.ne rfl).trans ((p98.ne rfl).trans ((p97.ne rfl).trans ((p96.ne rfl).trans ((p95.ne rfl).trans (p94.ne rfl)))))))))).trans s5
      replace s6 : a103.eval (.tmp 6) = .pointer (some ⟨q17, 0, none⟩) := ((p103.ne rfl).trans ((p102.ne rfl).trans ((p101.ne rfl).trans ((p100.ne rfl).trans ((p99.ne rfl).trans ((p98.ne rfl).trans ((p97.ne rfl).trans ((p96.ne rfl).trans ((p95.ne rfl).trans (p94.ne rfl)))))))))).trans s6
      replace s7 : a103.eval (.tmp 7) = .slice G15 ((trG a k zs ds).length) e15 := ((p103.ne rfl).trans ((p102.ne rfl).trans ((p101.ne rfl).trans ((p100.ne rfl).trans ((p99.ne rfl).trans ((p98.ne rfl).trans ((p97.ne rfl).trans ((p96.ne rfl).trans ((p95.ne rfl).trans (p94.ne rfl)))))))))).trans s7
      replace s8 : a103.eval (.tmp 8) = .pointer (some ⟨q23, 0, none⟩) := ((p103.ne rfl).trans ((p102.ne rfl).trans ((p101.ne rfl).trans ((p100.ne rfl).trans ((p99.ne rfl).trans ((p98.ne rfl).trans ((p97.ne rfl).trans ((p96.ne rfl).trans ((p95.ne rfl).trans (p94.ne rfl)))))))))).trans s8
      replace s9 : a103.eval (.tmp 9) = .pointer (some ⟨q29, 0, none⟩) := ((p103.ne rfl).trans ((p102.ne rfl).trans ((p101.ne rfl).trans ((p100.ne rfl).trans ((p99.ne rfl).trans ((p98.ne rfl).trans ((p97.ne rfl).trans ((p96.ne rfl).trans ((p95.ne rfl).trans (p94.ne rfl)))))))))).trans s9
      replace s10 : a103.eval (.tmp 10) = .slice G27 ((trG a k zs ds).length) e27 := ((p103.ne rfl).trans ((p102.ne rfl).trans ((p101.ne rfl).trans ((p100.ne rfl).trans ((p99.ne rfl).trans ((p98.ne rfl).trans ((p97.ne rfl).trans ((p96.ne rfl).trans ((p95.ne rfl).trans (p94.ne rfl)))))))))).trans s10
      replace s20 : a103.eval (.tmp 20) = .bool false := ((p103.ne rfl).trans ((p102.ne rfl).trans ((p101.ne rfl).trans ((p100.ne rfl).trans ((p99.ne rfl).trans ((p98.ne rfl).trans ((p97.ne rfl).trans ((p96.ne rfl).trans ((p95.ne rfl).trans (p94.ne rfl)))))))))).trans s20
      replace s45 : a103.eval (.tmp 45) = .bool false := ((p103.ne rfl).trans ((p102.ne rfl).trans ((p101.ne rfl).trans ((p100.ne rfl).trans ((p99.ne rfl).trans ((p98.ne rfl).trans ((p97.ne rfl).trans ((p96.ne rfl).trans ((p95.ne rfl).trans (p94.ne rfl)))))))))).trans s45
      replace s50 : a103.eval (.tmp 50) = .bool false := ((p103.ne rfl).trans ((p102.ne rfl).trans ((p101.ne rfl).trans ((p100.ne rfl).trans ((p99.ne rfl).trans ((p98.ne rfl).trans ((p97.ne rfl).trans ((p96.ne rfl).trans ((p95.ne rfl).trans (p94.ne rfl)))))))))).trans s50
      replace s11 : a103.eval (.tmp 11) = .int .i64 (1 + 4 * ((zs.length : Nat) : Int) + ((ds.length : Nat) : Int)) := ((p103.ne rfl).trans ((p102.ne rfl).trans ((p101.ne rfl).trans ((p100.ne rfl).trans ((p99.ne rfl).trans ((p98.ne rfl).trans ((p97.ne rfl).trans ((p96.ne rfl).trans ((p95.ne rfl).trans (p94.ne rfl)))))))))).trans s11
      replace s67 : a103.eval (.tmp 67) = .bool false := ((p103.ne rfl).trans ((p102.ne rfl).trans ((p101.ne rfl).trans ((p100.ne rfl).trans ((p99.ne rfl).trans ((p98.ne rfl).trans ((p97.ne rfl).trans ((p96.ne rfl).trans ((p95.ne rfl).trans (p94.ne rfl)))))))))).trans s67
      replace s12 : a103.eval (.tmp 12) = .int .i64 (1 + 4 * (((trL a k zs ds).length : Nat) : Int) + ((ds.length : Nat) : Int) + 4 * (((trG a k zs ds).length : Nat) : Int)) := ((p103.ne rfl).trans ((p102.ne rfl).trans ((p101.ne rfl).trans ((p100.ne rfl).trans ((p99.ne rfl).trans ((p98.ne rfl).trans ((p97.ne rfl).trans ((p96.ne rfl).trans ((p95.ne rfl).trans (p94.ne rfl)))))))))).trans s12
      replace s13 : a103.eval (.tmp 13) = .int .i64 (1 + 4 * (((trL a k zs ds).length : Nat) : Int) + ((ds.length : Nat) : Int) + 4 * (((trG a k zs ds).length : Nat) : Int)) := ((p103.ne rfl).trans ((p102.ne rfl).trans ((p101.ne rfl).trans ((p100.ne rfl).trans ((p99.ne rfl).trans ((p98.ne rfl).trans ((p97.ne rfl).trans ((p96.ne rfl).trans ((p95.ne rfl).trans (p94.ne rfl)))))))))).trans s13
      replace s78 : a103.eval (.tmp 78) = .bool false := ((p103.ne rfl).trans ((p102.ne rfl).trans ((p101.ne rfl).trans ((p100.ne rfl).trans ((p99.ne rfl).trans ((p98.ne rfl).trans ((p97.ne rfl).trans ((p96.ne rfl).trans ((p95.ne rfl).trans (p94.ne rfl)))))))))).trans s78
      replace s83 : a103.eval (.tmp 83) = .bool false := ((p103.ne rfl).trans ((p102.ne rfl).trans ((p101.ne rfl).trans ((p100.ne rfl).trans ((p99.ne rfl).trans ((p98.ne rfl).trans ((p97.ne rfl).trans ((p96.ne rfl).trans ((p95.ne rfl).trans (p94.ne rfl)))))))))).trans s83
      replace s86 : a103.eval (.tmp 86) = .bool false := ((p103.ne rfl).trans ((p102.ne rfl).trans ((p101.ne rfl).trans ((p100.ne rfl).trans ((p99.ne rfl).trans ((p98.ne rfl).trans ((p97.ne rfl).trans ((p96.ne rfl).trans ((p95.ne rfl).trans (p94.ne rfl)))))))))).trans s86
      replace s14 : a103.eval (.tmp 14) = .pointer (some ⟨q75, 0, none⟩) := ((p103.ne rfl).trans ((p102.ne rfl).trans ((p101.ne rfl).trans ((p100.ne rfl).trans ((p99.ne rfl).trans ((p98.ne rfl).trans ((p97.ne rfl).trans ((p96.ne rfl).trans ((p95.ne rfl).trans (p94.ne rfl)))))))))).trans s14
      replace s15 : a103.eval (.tmp 15) = .slice G73 ((trG a k zs ds).length) e73 := ((p103.ne rfl).trans ((p102.ne rfl).trans ((p101.ne rfl).trans ((p100.ne rfl).trans ((p99.ne rfl).trans ((p98.ne rfl).trans ((p97.ne rfl).trans ((p96.ne rfl).trans ((p95.ne rfl).trans (p94.ne rfl)))))))))).trans s15
      refine hK79 _ _ ?_
      clear hK79
      refine c_false s103 ?_
      refine wp_skip ?_
      refine hK78 _ _ ?_
      clear hK78
      refine wp_seq_k fun K84 hK84 => ?_
      refine wp_region_lit ?_
      refine q_val rfl rfl ?_
      refine g_assign rfl rfl ?_
      intro a104 p104
      have s13 : a104.eval (.tmp 13) = .int .i64 1 := p104.at hs (by decide)
      replace hs := p104.st hs
      refine wpList_nil ?_
      replace s0 : a104.eval (.tmp 0) = .agg #[.int .i64 a, .slice A zs.length cp, .slice B ds.length dp] := (p104.ne rfl).trans s0
      replace s1 : a104.eval (.tmp 1) = .int .i64 k := (p104.ne rfl).trans s1
      replace s2 : a104.eval (.tmp 2) = .pointer (some ⟨q2, 0, none⟩) := (p104.ne rfl).trans s2
      replace s4 : a104.eval (.tmp 4) = .bool false := (p104.ne rfl).trans s4
      replace s5 : a104.eval (.tmp 5) = .int .i64 q := (p104.ne rfl).trans s5
      replace s6 : a104.eval (.tmp 6) = .pointer (some ⟨q17, 0, none⟩) := (p104.ne rfl).trans s6
      replace s7 : a104.eval (.tmp 7) = .slice G15 ((trG a k zs ds).length) e15 := (p104.ne rfl).trans s7
      replace s8 : a104.eval (.tmp 8) = .pointer (some ⟨q23, 0, none⟩) := (p104.ne rfl).trans s8
      replace s9 : a104.eval (.tmp 9) = .pointer (some ⟨q29, 0, none⟩) := (p104.ne rfl).trans s9
      replace s10 : a104.eval (.tmp 10) = .slice G27 ((trG a k zs ds).length) e27 := (p104.ne rfl).trans s10
      replace s20 : a104.eval (.tmp 20) = .bool false := (p104.ne rfl).trans s20
      replace s45 : a104.eval (.tmp 45) = .bool false := (p104.ne rfl).trans s45
      replace s50 : a104.eval (.tmp 50) = .bool false := (p104.ne rfl).trans s50
      replace s11 : a104.eval (.tmp 11) = .int .i64 (1 + 4 * ((zs.length : Nat) : Int) + ((ds.length : Nat) : Int)) := (p104.ne rfl).trans s11
      replace s67 : a104.eval (.tmp 67) = .bool false := (p104.ne rfl).trans s67
      replace s12 : a104.eval (.tmp 12) = .int .i64 (1 + 4 * (((trL a k zs ds).length : Nat) : Int) + ((ds.length : Nat) : Int) + 4 * (((trG a k zs ds).length : Nat) : Int)) := (p104.ne rfl).trans s12
      replace s78 : a104.eval (.tmp 78) = .bool false := (p104.ne rfl).trans s78
      replace s83 : a104.eval (.tmp 83) = .bool false := (p104.ne rfl).trans s83
      replace s86 : a104.eval (.tmp 86) = .bool false := (p104.ne rfl).trans s86
      replace s14 : a104.eval (.tmp 14) = .pointer (some ⟨q75, 0, none⟩) := (p104.ne rfl).trans s14
      replace s15 : a104.eval (.tmp 15) = .slice G73 ((trG a k zs ds).length) e73 := (p104.ne rfl).trans s15
      replace s103 : a104.eval (.tmp 103) = .bool false := (p104.ne rfl).trans s103
      refine hK84 _ _ ?_
      clear hK84
      refine wp_seq_k fun K85 hK85 => ?_
      refine wp_region_lit ?_
      refine q_val rfl rfl ?_
      refine g_loadB rfl s9 Try.isAgg50 Try.sizeOf50 rfl h_q29 ?_
      intro a105 p105
      have s104 : a105.eval (.tmp 104) = .agg #[.int .i64 a, .slice A27 ((trL a k zs ds).length) c27, .slice B27 ds.length d27] := p105.at hs (by decide)
      replace hs := p105.st hs
      refine q_val rfl rfl ?_
      refine g_move rfl ((p105.ne rfl).trans s13) ?_
      intro a106 p106
      have s105 : a106.eval (.tmp 105) = .int .i64 1 := p106.at hs (by decide)
      replace hs := p106.st hs
      refine q_val rfl rfl ?_
      refine g_call rfl rfl Try.call49 (arr2 ((p106.ne rfl).trans s104) s105) ?_
      refine (heldRecorder_any _ (by omega) (by omega) (by omega) (by omega) (Rd.of_own o_z27) (Rd.of_own o_y27)).mono ?_
      rintro e w87 ⟨rfl, hb86⟩
      refine ⟨_, rfl, ?_⟩
      replace h_q2 := keep_below h_q2 hb86
      replace h_q17 := keep_below h_q17 hb86
      replace h_q23 := keep_below h_q23 hb86
      replace h_q29 := keep_below h_q29 hb86
      replace h_q75 := keep_below h_q75 hb86
      replace o_z13 := own_below o_z13 hb86
      replace o_y13 := own_below o_y13 hb86
      replace o_z15 := own_below o_z15 hb86
      replace o_y15 := own_below o_y15 hb86
      replace o_x15 := own_below o_x15 hb86
      replace o_z21 := own_below o_z21 hb86
      replace o_y21 := own_below o_y21 hb86
      replace o_z27 := own_below o_z27 hb86
      replace o_y27 := own_below o_y27 hb86
      replace o_x27 := own_below o_x27 hb86
      replace o_z40 := own_below o_z40 hb86
      replace o_y40 := own_below o_y40 hb86
      replace o_z71 := own_below o_z71 hb86
      replace o_y71 := own_below o_y71 hb86
      replace o_z73 := own_below o_z73 hb86
      replace o_y73 := own_below o_y73 hb86
      replace o_x73 := own_below o_x73 hb86
      replace hB := hB.trans (hb86.mono hB.size)
      clear hb86
      intro a107 p107
      have s106 : a107.eval (.tmp 106) = .int .i64 (1 + 4 * (((trL a k zs ds).length : Nat) : Int) + ((ds.length : Nat) : Int)) := p107.at hs (by decide)
      replace hs := p107.st hs
      refine q_val rfl rfl ?_
      refine g_assign rfl s106 ?_
      intro a108 p108
      have s13 : a108.eval (.tmp 13) = .int .i64 (1 + 4 * (((trL a k zs ds).length : Nat) : Int) + ((ds.length : Nat) : Int)) := p108.at hs (by decide)
      replace hs := p108.st hs
      refine wpList_nil ?_
      replace s0 : a108.eval (.tmp 0) = .agg #[.int .i64 a, .slice A zs.length cp, .slice B ds.length dp] := ((p108.ne rfl).trans ((p107.ne rfl).trans ((p106.ne rfl).trans (p105.ne rfl)))).trans s0
      replace s1 : a108.eval (.tmp 1) = .int .i64 k := ((p108.ne rfl).trans ((p107.ne rfl).trans ((p106.ne rfl).trans (p105.ne rfl)))).trans s1
      replace s2 : a108.eval (.tmp 2) = .pointer (some ⟨q2, 0, none⟩) := ((p108.ne rfl).trans ((p107.ne rfl).trans ((p106.ne rfl).trans (p105.ne rfl)))).trans s2
      replace s4 : a108.eval (.tmp 4) = .bool false := ((p108.ne rfl).trans ((p107.ne rfl).trans ((p106.ne rfl).trans (p105.ne rfl)))).trans s4
      replace s5 : a108.eval (.tmp 5) = .int .i64 q := ((p108.ne rfl).trans ((p107.ne rfl).trans ((p106.ne rfl).trans (p105.ne rfl)))).trans s5
      replace s6 : a108.eval (.tmp 6) = .pointer (some ⟨q17, 0, none⟩) := ((p108.ne rfl).trans ((p107.ne rfl).trans ((p106.ne rfl).trans (p105.ne rfl)))).trans s6
      replace s7 : a108.eval (.tmp 7) = .slice G15 ((trG a k zs ds).length) e15 := ((p108.ne rfl).trans ((p107.ne rfl).trans ((p106.ne rfl).trans (p105.ne rfl)))).trans s7
      replace s8 : a108.eval (.tmp 8) = .pointer (some ⟨q23, 0, none⟩) := ((p108.ne rfl).trans ((p107.ne rfl).trans ((p106.ne rfl).trans (p105.ne rfl)))).trans s8
      replace s9 : a108.eval (.tmp 9) = .pointer (some ⟨q29, 0, none⟩) := ((p108.ne rfl).trans ((p107.ne rfl).trans ((p106.ne rfl).trans (p105.ne rfl)))).trans s9
      replace s10 : a108.eval (.tmp 10) = .slice G27 ((trG a k zs ds).length) e27 := ((p108.ne rfl).trans ((p107.ne rfl).trans ((p106.ne rfl).trans (p105.ne rfl)))).trans s10
      replace s20 : a108.eval (.tmp 20) = .bool false := ((p108.ne rfl).trans ((p107.ne rfl).trans ((p106.ne rfl).trans (p105.ne rfl)))).trans s20
      replace s45 : a108.eval (.tmp 45) = .bool false := ((p108.ne rfl).trans ((p107.ne rfl).trans ((p106.ne rfl).trans (p105.ne rfl)))).trans s45
      replace s50 : a108.eval (.tmp 50) = .bool false := ((p108.ne rfl).trans ((p107.ne rfl).trans ((p106.ne rfl).trans (p105.ne rfl)))).trans s50
      replace s11 : a108.eval (.tmp 11) = .int .i64 (1 + 4 * ((zs.length : Nat) : Int) + ((ds.length : Nat) : Int)) := ((p108.ne rfl).trans ((p107.ne rfl).trans ((p106.ne rfl).trans (p105.ne rfl)))).trans s11
      replace s67 : a108.eval (.tmp 67) = .bool false := ((p108.ne rfl).trans ((p107.ne rfl).trans ((p106.ne rfl).trans (p105.ne rfl)))).trans s67
      replace s12 : a108.eval (.tmp 12) = .int .i64 (1 + 4 * (((trL a k zs ds).length : Nat) : Int) + ((ds.length : Nat) : Int) + 4 * (((trG a k zs ds).length : Nat) : Int)) := ((p108.ne rfl).trans ((p107.ne rfl).trans ((p106.ne rfl).trans (p105.ne rfl)))).trans s12
      replace s78 : a108.eval (.tmp 78) = .bool false := ((p108.ne rfl).trans ((p107.ne rfl).trans ((p106.ne rfl).trans (p105.ne rfl)))).trans s78
      replace s83 : a108.eval (.tmp 83) = .bool false := ((p108.ne rfl).trans ((p107.ne rfl).trans ((p106.ne rfl).trans (p105.ne rfl)))).trans s83
      replace s86 : a108.eval (.tmp 86) = .bool false := ((p108.ne rfl).trans ((p107.ne rfl).trans ((p106.ne rfl).trans (p105.ne rfl)))).trans s86
      replace s14 : a108.eval (.tmp 14) = .pointer (some ⟨q75, 0, none⟩) := ((p108.ne rfl).trans ((p107.ne rfl).trans ((p106.ne rfl).trans (p105.ne rfl)))).trans s14
      replace s15 : a108.eval (.tmp 15) = .slice G73 ((trG a k zs ds).length) e73 := ((p108.ne rfl).trans ((p107.ne rfl).trans ((p106.ne rfl).trans (p105.ne rfl)))).trans s15
      replace s103 : a108.eval (.tmp 103) = .bool false := ((p108.ne rfl).trans ((p107.ne rfl).trans ((p106.ne rfl).trans (p105.ne rfl)))).trans s103
      refine hK85 _ _ ?_
      clear hK85
      refine wp_seq_k fun K88 hK88 => ?_
      refine wp_seq_k fun K89 hK89 => ?_
      refine wp_region_lit ?_
      refine q_val rfl rfl ?_
      refine g_move rfl s13 ?_
      intro a109 p109
      have s107 : a109.eval (.tmp 107) = .int .i64 (1 + 4 * (((trL a k zs ds).length : Nat) : Int) + ((ds.length : Nat) : Int)) := p109.at hs (by decide)
      replace hs := p109.st hs
      refine q_val rfl rfl ?_
      refine g_lss rfl s107 rfl ?_
      intro a110 p110
      have s108 : a110.eval (.tmp 108) = .bool false := (p110.at hs (by decide)).trans (congrArg Value.bool (decide_eq_false (by omega)))
      replace hs := p110.st hs
      refine wpList_nil ?_
      replace s0 : a110.eval (.tmp 0) = .agg #[.int .i64 a, .slice A zs.length cp, .slice B ds.length dp] := ((p110.ne rfl).trans (p109.ne rfl)).trans s0
      replace s1 : a110.eval (.tmp 1) = .int .i64 k := ((p110.ne rfl).trans (p109.ne rfl)).trans s1
      replace s2 : a110.eval (.tmp 2) = .pointer (some ⟨q2, 0, none⟩) := ((p110.ne rfl).trans (p109.ne rfl)).trans s2
      replace s4 : a110.eval (.tmp 4) = .bool false := ((p110.ne rfl).trans (p109.ne rfl)).trans s4
      replace s5 : a110.eval (.tmp 5) = .int .i64 q := ((p110.ne rfl).trans (p109.ne rfl)).trans s5
      replace s6 : a110.eval (.tmp 6) = .pointer (some ⟨q17, 0, none⟩) := ((p110.ne rfl).trans (p109.ne rfl)).trans s6
      replace s7 : a110.eval (.tmp 7) = .slice G15 ((trG a k zs ds).length) e15 := ((p110.ne rfl).trans (p109.ne rfl)).trans s7
      replace s8 : a110.eval (.tmp 8) = .pointer (some ⟨q23, 0, none⟩) := ((p110.ne rfl).trans (p109.ne rfl)).trans s8
      replace s9 : a110.eval (.tmp 9) = .pointer (some ⟨q29, 0, none⟩) := ((p110.ne rfl).trans (p109.ne rfl)).trans s9
      replace s10 : a110.eval (.tmp 10) = .slice G27 ((trG a k zs ds).length) e27 := ((p110.ne rfl).trans (p109.ne rfl)).trans s10
      replace s20 : a110.eval (.tmp 20) = .bool false := ((p110.ne rfl).trans (p109.ne rfl)).trans s20
      replace s45 : a110.eval (.tmp 45) = .bool false := ((p110.ne rfl).trans (p109.ne rfl)).trans s45
      replace s50 : a110.eval (.tmp 50) = .bool false := ((p110.ne rfl).trans (p109.ne rfl)).trans s50
      replace s11 : a110.eval (.tmp 11) = .int .i64 (1 + 4 * ((zs.length : Nat) : Int) + ((ds.length : Nat) : Int)) := ((p110.ne rfl).trans (p109.ne rfl)).trans s11
      replace s67 : a110.eval (.tmp 67) = .bool false := ((p110.ne rfl).trans (p109.ne rfl)).trans s67
      replace s12 : a110.eval (.tmp 12) = .int .i64 (1 + 4 * (((trL a k zs ds).length : Nat) : Int) + ((ds.length : Nat) : Int) + 4 * (((trG a k zs ds).length : Nat) : Int)) := ((p110.ne rfl).trans (p109.ne rfl)).trans s12
      replace s13 : a110.eval (.tmp 13) = .int .i64 (1 + 4 * (((trL a k zs ds).length : Nat) : Int) + ((ds.length : Nat) : Int)) := ((p110.ne rfl).trans (p109.ne rfl)).trans s13
      replace s78 : a110.eval (.tmp 78) = .bool false := ((p110.ne rfl).trans (p109.ne rfl)).trans s78
      replace s83 : a110.eval (.tmp 83) = .bool false := ((p110.ne rfl).trans (p109.ne rfl)).trans s83
      replace s86 : a110.eval (.tmp 86) = .bool false := ((p110.ne rfl).trans (p109.ne rfl)).trans s86
      replace s14 : a110.eval (.tmp 14) = .pointer (some ⟨q75, 0, none⟩) := ((p110.ne rfl).trans (p109.ne rfl)).trans s14
      replace s15 : a110.eval (.tmp 15) = .slice G73 ((trG a k zs ds).length) e73 := ((p110.ne rfl).trans (p109.ne rfl)).trans s15
      replace s103 : a110.eval (.tmp 103) = .bool false := ((p110.ne rfl).trans (p109.ne rfl)).trans s103
      refine hK89 _ _ ?_
      clear hK89
      refine c_false s108 ?_
      refine wp_skip ?_
      refine hK88 _ _ ?_
      clear hK88
      refine wp_seq_k fun K90 hK90 => ?_
      refine wp_region_lit ?_
      refine q_val rfl rfl ?_
      refine g_move rfl s10 ?_
      intro a111 p111
      have s109 : a111.eval (.tmp 109) = .slice G27 ((trG a k zs ds).length) e27 := p111.at hs (by decide)
      replace hs := p111.st hs
      refine q_val rfl rfl ?_
      refine g_move rfl ((p111.ne rfl).trans s13) ?_
      intro a112 p112
      have s110 : a112.eval (.tmp 110) = .int .i64 (1 + 4 * (((trL a k zs ds).length : Nat) : Int) + ((ds.length : Nat) : Int)) := p112.at hs (by decide)
      replace hs := p112.st hs
      refine q_val rfl rfl ?_
      refine g_call rfl rfl Try.call50 (arr2 ((p112.ne rfl).trans s109) s110) ?_
      refine (heldRecordS_any' _ (by omega) (by omega) (by omega) (Rd.of_own o_x27)).mono ?_
      rintro e w92 ⟨rfl, hb91⟩
      refine ⟨_, rfl, ?_⟩
      replace h_q2 := keep_below h_q2 hb91
      replace h_q17 := keep_below h_q17 hb91
      replace h_q23 := keep_below h_q23 hb91
      replace h_q29 := keep_below h_q29 hb91
      replace h_q75 := keep_below h_q75 hb91
      replace o_z13 := own_below o_z13 hb91
      replace o_y13 := own_below o_y13 hb91
      replace o_z15 := own_below o_z15 hb91
      replace o_y15 := own_below o_y15 hb91
      replace o_x15 := own_below o_x15 hb91
      replace o_z21 := own_below o_z21 hb91
      replace o_y21 := own_below o_y21 hb91
      replace o_z27 := own_below o_z27 hb91
      replace o_y27 := own_below o_y27 hb91
      replace o_x27 := own_below o_x27 hb91
      replace o_z40 := own_below o_z40 hb91
      replace o_y40 := own_below o_y40 hb91
      replace o_z71 := own_below o_z71 hb91
      replace o_y71 := own_below o_y71 hb91
      replace o_z73 := own_below o_z73 hb91
      replace o_y73 := own_below o_y73 hb91
      replace o_x73 := own_below o_x73 hb91
      replace hB := hB.trans (hb91.mono hB.size)
      clear hb91
      intro a113 p113
      have s111 : a113.eval (.tmp 111) = .int .i64 (1 + 4 * (((trL a k zs ds).length : Nat) : Int) + ((ds.length : Nat) : Int) + 4 * (((trG a k zs ds).length : Nat) : Int)) := p113.at hs (by decide)
      replace hs := p113.st hs
      refine q_val rfl rfl ?_
      refine g_assign rfl s111 ?_
      intro a114 p114
      have s13 : a114.eval (.tmp 13) = .int .i64 (1 + 4 * (((trL a k zs ds).length : Nat) : Int) + ((ds.length : Nat) : Int) + 4 * (((trG a k zs ds).length : Nat) : Int)) := p114.at hs (by decide)
      replace hs := p114.st hs
      refine wpList_nil ?_
      replace s0 : a114.eval (.tmp 0) = .agg #[.int .i64 a, .slice A zs.length cp, .slice B ds.length dp] := ((p114.ne rfl).trans ((p113.ne rfl).trans ((p112.ne rfl).trans (p111.ne rfl)))).trans s0
      replace s1 : a114.eval (.tmp 1) = .int .i64 k := ((p114.ne rfl).trans ((p113.ne rfl).trans ((p112.ne rfl).trans (p111.ne rfl)))).trans s1
      replace s2 : a114.eval (.tmp 2) = .pointer (some ⟨q2, 0, none⟩) := ((p114.ne rfl).trans ((p113.ne rfl).trans ((p112.ne rfl).trans (p111.ne rfl)))).trans s2
      replace s4 : a114.eval (.tmp 4) = .bool false := ((p114.ne rfl).trans ((p113.ne rfl).trans ((p112.ne rfl).trans (p111.ne rfl)))).trans s4
      replace s5 : a114.eval (.tmp 5) = .int .i64 q := ((p114.ne rfl).trans ((p113.ne rfl).trans ((p112.ne rfl).trans (p111.ne rfl)))).trans s5
      replace s6 : a114.eval (.tmp 6) = .pointer (some ⟨q17, 0, none⟩) := ((p114.ne rfl).trans ((p113.ne rfl).trans ((p112.ne rfl).trans (p111.ne rfl)))).trans s6
      replace s7 : a114.eval (.tmp 7) = .slice G15 ((trG a k zs ds).length) e15 := ((p114.ne rfl).trans ((p113.ne rfl).trans ((p112.ne rfl).trans (p111.ne rfl)))).trans s7
      replace s8 : a114.eval (.tmp 8) = .pointer (some ⟨q23, 0, none⟩) := ((p114.ne rfl).trans ((p113.ne rfl).trans ((p112.ne rfl).trans (p111.ne rfl)))).trans s8
      replace s9 : a114.eval (.tmp 9) = .pointer (some ⟨q29, 0, none⟩) := ((p114.ne rfl).trans ((p113.ne rfl).trans ((p112.ne rfl).trans (p111.ne rfl)))).trans s9
      replace s10 : a114.eval (.tmp 10) = .slice G27 ((trG a k zs ds).length) e27 := ((p114.ne rfl).trans ((p113.ne rfl).trans ((p112.ne rfl).trans (p111.ne rfl)))).trans s10
      replace s20 : a114.eval (.tmp 20) = .bool false := ((p114.ne rfl).trans ((p113.ne rfl).trans ((p112.ne rfl).trans (p111.ne rfl)))).trans s20
      replace s45 : a114.eval (.tmp 45) = .bool false := ((p114.ne rfl).trans ((p113.ne rfl).trans ((p112.ne rfl).trans (p111.ne rfl)))).trans s45
      replace s50 : a114.eval (.tmp 50) = .bool false := ((p114.ne rfl).trans ((p113.ne rfl).trans ((p112.ne rfl).trans (p111.ne rfl)))).trans s50
      replace s11 : a114.eval (.tmp 11) = .int .i64 (1 + 4 * ((zs.length : Nat) : Int) + ((ds.length : Nat) : Int)) := ((p114.ne rfl).trans ((p113.ne rfl).trans ((p112.ne rfl).trans (p111.ne rfl)))).trans s11
      replace s67 : a114.eval (.tmp 67) = .bool false := ((p114.ne rfl).trans ((p113.ne rfl).trans ((p112.ne rfl).trans (p111.ne rfl)))).trans s67
      replace s12 : a114.eval (.tmp 12) = .int .i64 (1 + 4 * (((trL a k zs ds).length : Nat) : Int) + ((ds.length : Nat) : Int) + 4 * (((trG a k zs ds).length : Nat) : Int)) := ((p114.ne rfl).trans ((p113.ne rfl).trans ((p112.ne rfl).trans (p111.ne rfl)))).trans s12
      replace s78 : a114.eval (.tmp 78) = .bool false := ((p114.ne rfl).trans ((p113.ne rfl).trans ((p112.ne rfl).trans (p111.ne rfl)))).trans s78
      replace s83 : a114.eval (.tmp 83) = .bool false := ((p114.ne rfl).trans ((p113.ne rfl).trans ((p112.ne rfl).trans (p111.ne rfl)))).trans s83
      replace s86 : a114.eval (.tmp 86) = .bool false := ((p114.ne rfl).trans ((p113.ne rfl).trans ((p112.ne rfl).trans (p111.ne rfl)))).trans s86
      replace s14 : a114.eval (.tmp 14) = .pointer (some ⟨q75, 0, none⟩) := ((p114.ne rfl).trans ((p113.ne rfl).trans ((p112.ne rfl).trans (p111.ne rfl)))).trans s14
      replace s15 : a114.eval (.tmp 15) = .slice G73 ((trG a k zs ds).length) e73 := ((p114.ne rfl).trans ((p113.ne rfl).trans ((p112.ne rfl).trans (p111.ne rfl)))).trans s15
      replace s103 : a114.eval (.tmp 103) = .bool false := ((p114.ne rfl).trans ((p113.ne rfl).trans ((p112.ne rfl).trans (p111.ne rfl)))).trans s103
      replace s108 : a114.eval (.tmp 108) = .bool false := ((p114.ne rfl).trans ((p113.ne rfl).trans ((p112.ne rfl).trans (p111.ne rfl)))).trans s108
      refine hK90 _ _ ?_
      clear hK90
      refine wp_seq_k fun K93 hK93 => ?_
      refine wp_seq_k fun K94 hK94 => ?_
      refine wp_region_lit ?_
      refine q_val rfl rfl ?_
      refine g_move rfl s13 ?_
      intro a115 p115
      have s112 : a115.eval (.tmp 112) = .int .i64 (1 + 4 * (((trL a k zs ds).length : Nat) : Int) + ((ds.length : Nat) : Int) + 4 * (((trG a k zs ds).length : Nat) : Int)) := p115.at hs (by decide)
      replace hs := p115.st hs
      refine q_val rfl rfl ?_
      refine g_lss rfl s112 rfl ?_
      intro a116 p116
      have s113 : a116.eval (.tmp 113) = .bool false := (p116.at hs (by decide)).trans (congrArg Value.bool (decide_eq_false (by omega)))
      replace hs := p116.st hs
      refine wpList_nil ?_
      replace s0 : a116.eval (.tmp 0) = .agg #[.int .i64 a, .slice A zs.length cp, .slice B ds.length dp] := ((p116.ne rfl).trans (p115.ne rfl)).trans s0
      replace s1 : a116.eval (.tmp 1) = .int .i64 k := ((p116.ne rfl).trans (p115.ne rfl)).trans s1
      replace s2 : a116.eval (.tmp 2) = .pointer (some ⟨q2, 0, none⟩) := ((p116.ne rfl).trans (p115.ne rfl)).trans s2
      replace s4 : a116.eval (.tmp 4) = .bool false := ((p116.ne rfl).trans (p115.ne rfl)).trans s4
      replace s5 : a116.eval (.tmp 5) = .int .i64 q := ((p116.ne rfl).trans (p115.ne rfl)).trans s5
      replace s6 : a116.eval (.tmp 6) = .pointer (some ⟨q17, 0, none⟩) := ((p116.ne rfl).trans (p115.ne rfl)).trans s6
      replace s7 : a116.eval (.tmp 7) = .slice G15 ((trG a k zs ds).length) e15 := ((p116.ne rfl).trans (p115.ne rfl)).trans s7
      replace s8 : a116.eval (.tmp 8) = .pointer (some ⟨q23, 0, none⟩) := ((p116.ne rfl).trans (p115.ne rfl)).trans s8
      replace s9 : a116.eval (.tmp 9) = .pointer (some ⟨q29, 0, none⟩) := ((p116.ne rfl).trans (p115.ne rfl)).trans s9
      replace s10 : a116.eval (.tmp 10) = .slice G27 ((trG a k zs ds).length) e27 := ((p116.ne rfl).trans (p115.ne rfl)).trans s10
      replace s20 : a116.eval (.tmp 20) = .bool false := ((p116.ne rfl).trans (p115.ne rfl)).trans s20
      replace s45 : a116.eval (.tmp 45) = .bool false := ((p116.ne rfl).trans (p115.ne rfl)).trans s45
      replace s50 : a116.eval (.tmp 50) = .bool false := ((p116.ne rfl).trans (p115.ne rfl)).trans s50
      replace s11 : a116.eval (.tmp 11) = .int .i64 (1 + 4 * ((zs.length : Nat) : Int) + ((ds.length : Nat) : Int)) := ((p116.ne rfl).trans (p115.ne rfl)).trans s11
      replace s67 : a116.eval (.tmp 67) = .bool false := ((p116.ne rfl).trans (p115.ne rfl)).trans s67
      replace s12 : a116.eval (.tmp 12) = .int .i64 (1 + 4 * (((trL a k zs ds).length : Nat) : Int) + ((ds.length : Nat) : Int) + 4 * (((trG a k zs ds).length : Nat) : Int)) := ((p116.ne rfl).trans (p115.ne rfl)).trans s12
      replace s13 : a116.eval (.tmp 13) = .int .i64 (1 + 4 * (((trL a k zs ds).length : Nat) : Int) + ((ds.length : Nat) : Int) + 4 * (((trG a k zs ds).length : Nat) : Int)) := ((p116.ne rfl).trans (p115.ne rfl)).trans s13
      replace s78 : a116.eval (.tmp 78) = .bool false := ((p116.ne rfl).trans (p115.ne rfl)).trans s78
      replace s83 : a116.eval (.tmp 83) = .bool false := ((p116.ne rfl).trans (p115.ne rfl)).trans s83
      replace s86 : a116.eval (.tmp 86) = .bool false := ((p116.ne rfl).trans (p115.ne rfl)).trans s86
      replace s14 : a116.eval (.tmp 14) = .pointer (some ⟨q75, 0, none⟩) := ((p116.ne rfl).trans (p115.ne rfl)).trans s14
      replace s15 : a116.eval (.tmp 15) = .slice G73 ((trG a k zs ds).length) e73 := ((p116.ne rfl).trans (p115.ne rfl)).trans s15
      replace s103 : a116.eval (.tmp 103) = .bool false := ((p116.ne rfl).trans (p115.ne rfl)).trans s103
      replace s108 : a116.eval (.tmp 108) = .bool false := ((p116.ne rfl).trans (p115.ne rfl)).trans s108
      refine hK94 _ _ ?_
      clear hK94
      refine c_false s113 ?_
      refine wp_skip ?_
      refine hK93 _ _ ?_
      clear hK93
      refine wp_seq_k fun K95 hK95 => ?_
      refine wp_seq_k fun K96 hK96 => ?_
      refine wp_region_lit ?_
      refine q_val rfl rfl ?_
      refine g_move rfl s13 ?_
      intro a117 p117
      have s114 : a117.eval (.tmp 114) = .int .i64 (1 + 4 * (((trL a k zs ds).length : Nat) : Int) + ((ds.length : Nat) : Int) + 4 * (((trG a k zs ds).length : Nat) : Int)) := p117.at hs (by decide)
      replace hs := p117.st hs
      refine q_val rfl rfl ?_
      refine g_move rfl ((p117.ne rfl).trans s12) ?_
      intro a118 p118
      have s115 : a118.eval (.tmp 115) = .int .i64 (1 + 4 * (((trL a k zs ds).length : Nat) : Int) + ((ds.length : Nat) : Int) + 4 * (((trG a k zs ds).length : Nat) : Int)) := p118.at hs (by decide)
      replace hs := p118.st hs
      refine q_val rfl rfl ?_
      refine g_neq rfl ((p118.ne rfl).trans s114) s115 ?_
      intro a119 p119
      have s116 : a119.eval (.tmp 116) = .bool false := (p119.at hs (by decide)).trans (congrArg (fun b => Value.bool (!b)) (decide_eq_true rfl))
      replace hs := p119.st hs
      refine wpList_nil ?_
      replace s0 : a119.eval (.tmp 0) = .agg #[.int .i64 a, .slice A zs.length cp, .slice B ds.length dp] := ((p119.ne rfl).trans ((p118.ne rfl).trans (p117.ne rfl))).trans s0
      replace s1 : a119.eval (.tmp 1) = .int .i64 k := ((p119.ne rfl).trans ((p118.ne rfl).trans (p117.ne rfl))).trans s1
      replace s2 : a119.eval (.tmp 2) = .pointer (some ⟨q2, 0, none⟩) := ((p119.ne rfl).trans ((p118.ne rfl).trans (p117.ne rfl))).trans s2
      replace s4 : a119.eval (.tmp 4) = .bool false := ((p119.ne rfl).trans ((p118.ne rfl).trans (p117.ne rfl))).trans s4
      replace s5 : a119.eval (.tmp 5) = .int .i64 q := ((p119.ne rfl).trans ((p118.ne rfl).trans (p117.ne rfl))).trans s5
      replace s6 : a119.eval (.tmp 6) = .pointer (some ⟨q17, 0, none⟩) := ((p119.ne rfl).trans ((p118.ne rfl).trans (p117.ne rfl))).trans s6
      replace s7 : a119.eval (.tmp 7) = .slice G15 ((trG a k zs ds).length) e15 := ((p119.ne rfl).trans ((p118.ne rfl).trans (p117.ne rfl))).trans s7
      replace s8 : a119.eval (.tmp 8) = .pointer (some ⟨q23, 0, none⟩) := ((p119.ne rfl).trans ((p118.ne rfl).trans (p117.ne rfl))).trans s8
      replace s9 : a119.eval (.tmp 9) = .pointer (some ⟨q29, 0, none⟩) := ((p119.ne rfl).trans ((p118.ne rfl).trans (p117.ne rfl))).trans s9
      replace s10 : a119.eval (.tmp 10) = .slice G27 ((trG a k zs ds).length) e27 := ((p119.ne rfl).trans ((p118.ne rfl).trans (p117.ne rfl))).trans s10
      replace s20 : a119.eval (.tmp 20) = .bool false := ((p119.ne rfl).trans ((p118.ne rfl).trans (p117.ne rfl))).trans s20
      replace s45 : a119.eval (.tmp 45) = .bool false := ((p119.ne rfl).trans ((p118.ne rfl).trans (p117.ne rfl))).trans s45
      replace s50 : a119.eval (.tmp 50) = .bool false := ((p119.ne rfl).trans ((p118.ne rfl).trans (p117.ne rfl))).trans s50
      replace s11 : a119.eval (.tmp 11) = .int .i64 (1 + 4 * ((zs.length : Nat) : Int) + ((ds.length : Nat) : Int)) := ((p119.ne rfl).trans ((p118.ne rfl).trans (p117.ne rfl))).trans s11
      replace s67 : a119.eval (.tmp 67) = .bool false := ((p119.ne rfl).trans ((p118.ne rfl).trans (p117.ne rfl))).trans s67
      replace s12 : a119.eval (.tmp 12) = .int .i64 (1 + 4 * (((trL a k zs ds).length : Nat) : Int) + ((ds.length : Nat) : Int) + 4 * (((trG a k zs ds).length : Nat) : Int)) := ((p119.ne rfl).trans ((p118.ne rfl).trans (p117.ne rfl))).trans s12
      replace s13 : a119.eval (.tmp 13) = .int .i64 (1 + 4 * (((trL a k zs ds).length : Nat) : Int) + ((ds.length : Nat) : Int) + 4 * (((trG a k zs ds).length : Nat) : Int)) := ((p119.ne rfl).trans ((p118.ne rfl).trans (p117.ne rfl))).trans s13
      replace s78 : a119.eval (.tmp 78) = .bool false := ((p119.ne rfl).trans ((p118.ne rfl).trans (p117.ne rfl))).trans s78
      replace s83 : a119.eval (.tmp 83) = .bool false := ((p119.ne rfl).trans ((p118.ne rfl).trans (p117.ne rfl))).trans s83
      replace s86 : a119.eval (.tmp 86) = .bool false := ((p119.ne rfl).trans ((p118.ne rfl).trans (p117.ne rfl))).trans s86
      replace s14 : a119.eval (.tmp 14) = .pointer (some ⟨q75, 0, none⟩) := ((p119.ne rfl).trans ((p118.ne rfl).trans (p117.ne rfl))).trans s14
      replace s15 : a119.eval (.tmp 15) = .slice G73 ((trG a k zs ds).length) e73 := ((p119.ne rfl).trans ((p118.ne rfl).trans (p117.ne rfl))).trans s15
      replace s103 : a119.eval (.tmp 103) = .bool false := ((p119.ne rfl).trans ((p118.ne rfl).trans (p117.ne rfl))).trans s103
      replace s108 : a119.eval (.tmp 108) = .bool false := ((p119.ne rfl).trans ((p118.ne rfl).trans (p117.ne rfl))).trans s108
      replace s113 : a119.eval (.tmp 113) = .bool false := ((p119.ne rfl).trans ((p118.ne rfl).trans (p117.ne rfl))).trans s113
      refine hK96 _ _ ?_
      clear hK96
      refine c_false s116 ?_
      refine wp_skip ?_
      refine hK95 _ _ ?_
      clear hK95
      refine wp_seq_k fun K97 hK97 => ?_
      refine wp_region_lit ?_
      refine q_val rfl rfl ?_
      refine g_assign rfl rfl ?_
      intro a120 p120
      have s4 : a120.eval (.tmp 4) = .bool true := p120.at hs (by decide)
      replace hs := p120.st hs
      refine wpList_nil ?_
      replace s0 : a120.eval (.tmp 0) = .agg #[.int .i64 a, .slice A zs.length cp, .slice B ds.length dp] := (p120.ne rfl).trans s0
      replace s1 : a120.eval (.tmp 1) = .int .i64 k := (p120.ne rfl).trans s1
      replace s2 : a120.eval (.tmp 2) = .pointer (some ⟨q2, 0, none⟩) := (p120.ne rfl).trans s2
      replace s5 : a120.eval (.tmp 5) = .int .i64 q := (p120.ne rfl).trans s5
      replace s6 : a120.eval (.tmp 6) = .pointer (some ⟨q17, 0, none⟩) := (p120.ne rfl).trans s6
      replace s7 : a120.eval (.tmp 7) = .slice G15 ((trG a k zs ds).length) e15 := (p120.ne rfl).trans s7
      replace s8 : a120.eval (.tmp 8) = .pointer (some ⟨q23, 0, none⟩) := (p120.ne rfl).trans s8
      replace s9 : a120.eval (.tmp 9) = .pointer (some ⟨q29, 0, none⟩) := (p120.ne rfl).trans s9
      replace s10 : a120.eval (.tmp 10) = .slice G27 ((trG a k zs ds).length) e27 := (p120.ne rfl).trans s10
      replace s20 : a120.eval (.tmp 20) = .bool false := (p120.ne rfl).trans s20
      replace s45 : a120.eval (.tmp 45) = .bool false := (p120.ne rfl).trans s45
      replace s50 : a120.eval (.tmp 50) = .bool false := (p120.ne rfl).trans s50
      replace s11 : a120.eval (.tmp 11) = .int .i64 (1 + 4 * ((zs.length : Nat) : Int) + ((ds.length : Nat) : Int)) := (p120.ne rfl).trans s11
      replace s67 : a120.eval (.tmp 67) = .bool false := (p120.ne rfl).trans s67
      replace s12 : a120.eval (.tmp 12) = .int .i64 (1 + 4 * (((trL a k zs ds).length : Nat) : Int) + ((ds.length : Nat) : Int) + 4 * (((trG a k zs ds).length : Nat) : Int)) := (p120.ne rfl).trans s12
      replace s13 : a120.eval (.tmp 13) = .int .i64 (1 + 4 * (((trL a k zs ds).length : Nat) : Int) + ((ds.length : Nat) : Int) + 4 * (((trG a k zs ds).length : Nat) : Int)) := (p120.ne rfl).trans s13
      replace s78 : a120.eval (.tmp 78) = .bool false := (p120.ne rfl).trans s78
      replace s83 : a120.eval (.tmp 83) = .bool false := (p120.ne rfl).trans s83
      replace s86 : a120.eval (.tmp 86) = .bool false := (p120.ne rfl).trans s86
      replace s14 : a120.eval (.tmp 14) = .pointer (some ⟨q75, 0, none⟩) := (p120.ne rfl).trans s14
      replace s15 : a120.eval (.tmp 15) = .slice G73 ((trG a k zs ds).length) e73 := (p120.ne rfl).trans s15
      replace s103 : a120.eval (.tmp 103) = .bool false := (p120.ne rfl).trans s103
      replace s108 : a120.eval (.tmp 108) = .bool false := (p120.ne rfl).trans s108
      replace s113 : a120.eval (.tmp 113) = .bool false := (p120.ne rfl).trans s113
      replace s116 : a120.eval (.tmp 116) = .bool false := (p120.ne rfl).trans s116
      refine hK97 _ _ ?_
      clear hK97
      refine wp_ret ?_
      try dsimp only [Exit.then, Exit.inBlock]
      refine ret1 hs Try.results13 (res_tmp s4) ?_
      exact ⟨rfl, hB⟩

/-! ### The row's step, written by a program of ours (frame.py) -/
namespace fnExactTakeRecordsDone
open Go.ChangeShapes Go.WideShapes Go.ChangeAt
open Go.ChangeMaps (open_string)
theorem own : ownKnob Try.prog.godebug = none := by kernel_rfl
theorem laidOut : laidOutB Try.prog = true := by kernel_rfl
set_option maxRecDepth 100000 in
theorem lifted (os : Os) (started : os.Started) (H : Type) (enc : TypeId × Value → H) :
    ReturnsInHanded {} Try.checked os 13 .any (Rows.fnExactTakeRecordsSpec.pre6 enc Try.prog Try.f13 Rows.fnExactTakeRecordsRow.domain false) (Rows.fnExactTakeRecordsSpec.post enc Try.prog Try.f13 false true false false) := by
  refine returnsInHanded_of_change (C := Try.checked) own started (by kernel_rfl) Try.func13
    (ChangeSpec.witness6 (enc := enc) (C := Try.checked) false ⟨#[], #[.agg #[.int .i64 0, .slice none 0 0, .slice none 0 0], .int .i64 0], []⟩ 8 (by kernel_rfl) (by kernel_rfl) (by kernel_rfl) (by kernel_rfl)) ?_
  intro W base args ds gs before hval0 hW hcnd _
  have hval : ∀ (j : Nat) t v, Try.f13.params[j]? = some t → args[j]? = some v → Value.okWide Try.prog W .any base t v := hval0
  have hW' := hW
  obtain ⟨p, q, hA0, hV, rfl, hfz, hnd⟩ := hW
  have hA : DataW.TrodAll enc Try.prog W 0 (fun _ => true) true Try.f13.params.toList args.toList ds p := hA0
  rw [Try.params13] at hA hval
  obtain ⟨v0, vs0, d0, ds0, p0, q0, hargs, rfl, rfl, h0, r0⟩ := trodAll_cons hA
  obtain ⟨v1, vs1, d1, ds1, p1, q1, rfl, rfl, rfl, h1, r1⟩ := trodAll_cons r0
  obtain ⟨rfl, rfl, rfl⟩ := trodAll_nil r1
  obtain rfl : args = #[v0, v1] := by cases args; simp_all
  obtain ⟨rfl, rfl⟩ := trodVars_none hV
  have k0 := h0
  have lt0 : ∀ x ∈ p0, x.block < W.heap.size := by obtain ⟨m, hm⟩ := k0; exact DataW.trod_lt m _ _ _ hm
  have k1 := h1
  have lt1 : ∀ x ∈ p1, x.block < W.heap.size := by obtain ⟨m, hm⟩ := k1; exact DataW.trod_lt m _ _ _ hm
  obtain ⟨cs0, rfl, _⟩ := okWide_struct Try.underlying61 (hval 0 61 v0 rfl rfl)
  obtain ⟨fuel0, hf0⟩ := h0
  obtain ⟨x0a, A0, n0, c0, rs0, B0, m0, e0, ds0, hcs0, hxa0, ⟨hlen0, hnc0, hcm0, hrd0, hwf0⟩, ⟨hlenb0, hncb0, hcmb0, hrdb0, hwfb0⟩⟩ := open_Recorder hf0
  obtain ⟨cs0⟩ := cs0
  simp only [Value.cells] at hcs0
  subst hcs0
  obtain ⟨a1, rfl, rfl, rfl, w1⟩ := open_int Try.underlying3 (hval 1 3 v1 rfl rfl) h1
  clear hA0 hval0
  refine (fnExactTakeRecords_walk (w := W) x0a A0 n0 c0 rs0 B0 m0 e0 ds0 hxa0 hlen0 hnc0 hcm0 hrd0 hwf0 hlenb0 hncb0 hcmb0 hrdb0 hwfb0 a1 (i64_of_wf w1)).mono fun e W' ⟨he, bel⟩ => ?_
  subst he
  exact ⟨_, rfl, _, _, _, [], _, [], hW', trodAll_mk1 (shut_bool Try.underlying4 _), (trodAll_cons_mk (Below.trod laidOut (by kernel_rfl) (of_decide_eq_true (by kernel_rfl)) k0 bel lt0) (trodAll_cons_mk (Below.trod laidOut (by kernel_rfl) (of_decide_eq_true (by kernel_rfl)) k1 bel lt1) trodAll_mk0)), rfl, bel.frame _, fun h => by cases h⟩
theorem proved : Rows.FnExactTakeRecordsSaid :=
  OpenClaim.holds_of_wide 13 Try.f13 rfl rfl rfl rfl rfl rfl rfl ⟨rfl, rfl, rfl, rfl, rfl⟩ rfl rfl rfl rfl rfl (by kernel_rfl) Try.func13 (by kernel_rfl)
    (of_decide_eq_true (by kernel_rfl)) (by unfold Func.isWrapper; first | (rw [if_pos (by decide +kernel)]; kernel_rfl) | (rw [if_neg (by decide +kernel)]; exact ⟨rfl, rfl⟩))
    (fun os started H enc _ => lifted os started H enc)
end fnExactTakeRecordsDone
end Go.Proofs.Ytnjopeonmenopaa
