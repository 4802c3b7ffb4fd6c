/- The program's NewBoard returns what the reference's returns, for all arguments. No condition. -/
import Derived.Test.YtoccapmoehdohaaBdBun
import Derived.Test.YtoccapmoehdohaaBdNew
import Derived.Test.YtoccapmoehdohaaBdArg
namespace Go.Proofs.Ytoccapmoehdohaa
open Go.RowKit
set_option linter.unusedSimpArgs false
set_option linter.unusedVariables false

theorem bdNew_w {room : Int} {ls : List ELimit} (h : ls.length ≤ 1048576) : BdW (bdNew room ls).1 := by
  unfold bdNew
  split
  · exact newB_w h
  · exact ⟨Nat.zero_le _, Nat.zero_le _, Nat.zero_le _, Nat.zero_le _, Nat.zero_le _, Nat.zero_le _, Nat.zero_le _, fun z hz => by cases hz⟩
set_option maxRecDepth 100000 in
set_option maxHeartbeats 8000000 in
theorem fnExactNewBoard_walk {w : World} (room : Int) (_ : I64 room) (A : Option Addr) (n c : Nat) (zs : List ELimit) (hlen : zs.length = n) (hnc : n ≤ c) (hcm : c ≤ maxLen) (hR : Rd w 3 A n (zs.flatMap cLimit)) :
    Calls Try.prog 6 #[.int .i64 room, .slice A n c] w fun e w' => e = .returned (.bool true) ∧ Below w.heap.size w w' := by
  subst hlen
  unfold maxLen at hcm
  have hr_b := hR
  have hn0 := mkN_0 (bdNew room zs).1
  refine enter 101 Try.func6 rfl rfl (Nat.le_of_ble_eq_true rfl) ?_
  intro a0 hs hargs
  have s0 : a0.eval (.tmp 0) = .int .i64 room := hargs 0 _ rfl
  have s1 : a0.eval (.tmp 1) = .slice A zs.length c := hargs 1 _ rfl
  clear hargs
  have hB : Below w.heap.size w w := Below.refl _ _
  refine wp_seq_k fun K1 hK1 => ?_
  refine wp_region_lit ?_
  refine q_v hs rfl rfl rfl (g_assign rfl rfl ?_)
  intro a1 p1
  have s4 : a1.eval (.tmp 4) = .bool false := p1.v
  refine wpList_nil ?_
  replace s0 := p1.k s0 rfl
  replace s1 := p1.k s1 rfl
  refine hK1 _ _ ?_
  clear hK1
  refine wp_seq_k fun K2 hK2 => ?_
  refine wp_region_lit ?_
  refine q_v p1.s rfl rfl rfl (g_assign rfl rfl ?_)
  intro a2 p2
  have s5 : a2.eval (.tmp 5) = .int .i64 1048576 := p2.v
  refine wpList_nil ?_
  replace s0 := p2.k s0 rfl
  replace s1 := p2.k s1 rfl
  replace s4 := p2.k s4 rfl
  refine hK2 _ _ ?_
  clear hK2
  refine wp_seq_k fun K3 hK3 => ?_
  refine wp_region_lit ?_
  refine q_v p2.s rfl rfl rfl (g_move rfl s1 ?_)
  intro a3 p3
  refine q_v p3.s rfl rfl rfl (g_move rfl (p3.k s5 rfl) ?_)
  intro a4 p4
  refine q_v p4.s rfl rfl rfl ?_
  refine g_call rfl rfl Try.call26 (arr2 (p4.k p3.v rfl) p4.v) ?_
  refine (szLimitS_any _ _ _ _ _ (by omega) (by omega) (by omega)).mono ?_
  rintro e w' ⟨q, rfl, hq0, hq1, hq2, rfl⟩
  refine ⟨_, rfl, ?_⟩
  intro a5 p5
  refine q_v p5.s rfl rfl rfl (g_assign rfl p5.v ?_)
  intro a6 p6
  refine wpList_nil ?_
  have kc2 := ((((Kps.nil a2).u p3).u p4).u p5).u p6
  replace s0 := kc2.k s0 rfl
  replace s1 := kc2.k s1 rfl
  replace s4 := kc2.k s4 rfl
  replace s5 := p6.v
  clear kc2
  refine hK3 _ _ ?_
  clear hK3
  refine wp_seq_k fun K4 hK4 => ?_
  refine wp_seq_k fun K5 hK5 => ?_
  refine wp_region_lit ?_
  refine q_v p6.s rfl rfl rfl (g_move rfl s5 ?_)
  intro a7 p7
  refine q_v p7.s rfl rfl rfl (g_lss rfl p7.v rfl ?_)
  intro a8 p8
  refine wpList_nil ?_
  replace s0 := p8.k (p7.k s0 rfl) rfl
  replace s1 := p8.k (p7.k s1 rfl) rfl
  replace s4 := p8.k (p7.k s4 rfl) rfl
  replace s20 := p8.v
  refine hK5 _ _ ?_
  clear hK5
  by_cases hc6 : q < 0
  · replace s20 : a8.eval (.tmp 20) = .bool true := (s20).trans (congrArg Value.bool (decide_eq_true hc6))
    refine c_true s20 ?_
    refine wp_seq_k fun K7 hK7 => ?_
    refine wp_region_lit ?_
    refine q_v p8.s rfl rfl rfl (g_assign rfl rfl ?_)
    intro a9 p9
    have s4 : a9.eval (.tmp 4) = .bool true := p9.v
    refine wpList_nil ?_
    replace s0 := p9.k s0 rfl
    replace s1 := p9.k s1 rfl
    refine hK7 _ _ ?_
    clear hK7
    refine wp_ret ?_
    try dsimp only [Exit.then, Exit.inBlock]
    refine ret1 p9.s Try.results6 (res_tmp s4) ?_
    exact ⟨rfl, hB⟩
  replace s20 : a8.eval (.tmp 20) = .bool false := (s20).trans (congrArg Value.bool (decide_eq_false hc6))
  refine c_false s20 ?_
  refine wp_skip ?_
  refine hK4 _ _ ?_
  clear hK4
  refine wp_seq_k fun K8 hK8 => ?_
  have hm : zs.length ≤ 1048576 := hq2 (by omega)
  refine wp_region_lit ?_
  refine q_v p8.s rfl rfl rfl (g_move rfl s0 ?_)
  intro a9 p9
  refine q_v p9.s rfl rfl rfl (g_move rfl (p9.k s1 rfl) ?_)
  intro a10 p10
  refine q_v p10.s rfl rfl rfl ?_
  refine g_call rfl rfl Try.call28 (arr1 p10.v) ?_
  refine (toLimitS_any _ _ _ zs _ rfl (by omega) (hr_b.below hB)).mono ?_
  rintro e w10 ⟨g9, rfl, o_z9, hb9⟩
  refine ⟨_, rfl, ?_⟩
  replace o_z9 := own_base (base := w.heap.size) o_z9 hB.size
  replace hB := hB.trans (hb9.mono hB.size)
  clear hb9
  intro a11 p11
  refine q_v p11.s rfl rfl rfl ?_
  refine g_call rfl rfl Try.call27 (arr2 (p11.k (p10.k p9.v rfl) rfl) p11.v) ?_
  refine (sNewBoard_any (room := room) (ls := zs) _ rfl (by omega) (own_nil o_z9) (Rd.of_own o_z9)).mono ?_
  rintro e w12 ⟨S11, rfl, o_y11, hb11⟩
  refine ⟨_, rfl, ?_⟩
  replace o_y11 := o_y11.rebase hB.size
  replace hB := hB.trans (hb11.mono hB.size)
  clear hb11
  intro a12 p12
  refine q_v p12.s rfl rfl rfl (g_move rfl p12.v ?_)
  intro a13 p13
  refine q_v p13.s rfl rfl rfl (g_extract rfl p13.v rfl ?_)
  intro a14 p14
  refine q_v p14.s rfl rfl rfl (g_extract rfl (p14.k p13.v rfl) rfl ?_)
  intro a15 p15
  refine q_v p15.s rfl rfl rfl ?_
  refine g_alloc rfl Try.zeroValue32 rfl ?_
  intro q13 w14 N_q13
  have d_y11_q13 := o_y11.neNew N_q13
  have g_q13 : GeB w.heap.size q13 := ⟨Nat.le_trans hB.size N_q13.lo⟩
  replace o_y11 := o_y11.below N_q13.below
  replace hB := below_new hB hB.size N_q13
  have h_q13 := N_q13.here
  clear N_q13
  intro a16 p16
  refine q_eff rfl rfl ?_
  refine g_storeB rfl p16.v (p16.k (p15.k p14.v rfl) rfl) Try.sizeOf32 rfl rfl h_q13 rfl ?_
  intro w15 W_w15
  replace h_q13 := W_w15.here
  replace o_y11 := o_y11.wrote W_w15 d_y11_q13
  replace hB := below_wrote hB hB.size W_w15 g_q13.le
  clear W_w15
  refine q_v p16.s rfl rfl rfl (g_assign rfl (p16.k p15.v rfl) ?_)
  intro a17 p17
  refine wpList_nil ?_
  have kc8 := (((((((((Kps.nil a8).u p9).u p10).u p11).u p12).u p13).u p14).u p15).u p16).u p17
  replace s0 := kc8.k s0 rfl
  replace s1 := kc8.k s1 rfl
  replace s4 := kc8.k s4 rfl
  replace s6 := p17.k p16.v rfl
  replace s7 := p17.v
  clear kc8
  refine hK8 _ _ ?_
  clear hK8
  refine wp_seq_k fun K16 hK16 => ?_
  refine wp_region_lit ?_
  refine q_v p17.s rfl rfl rfl (g_move rfl s1 ?_)
  intro a18 p18
  refine q_v p18.s rfl rfl rfl ?_
  refine g_call rfl rfl Try.call28 (arr1 p18.v) ?_
  refine (toLimitS_any _ _ _ zs _ rfl (by omega) (hr_b.below hB)).mono ?_
  rintro e w18 ⟨g17, rfl, o_z17, hb17⟩
  refine ⟨_, rfl, ?_⟩
  have d_z17_q13 := own_ne_box o_z17 (lt_of_block h_q13)
  have m_y11_z17 := o_y11.rowNew o_z17 (Nat.le_refl _)
  have g_z17 : ∀ b, ((some ⟨g17, 0, none⟩) : Option Addr).map (·.block) = some b → w.heap.size ≤ b := fun b h => Nat.le_trans hB.size (own_row o_z17 b h).1
  replace o_z17 := own_base (base := w.heap.size) o_z17 hB.size
  replace h_q13 := keep_below h_q13 hb17
  replace o_y11 := o_y11.below hb17
  replace hB := hB.trans (hb17.mono hB.size)
  clear hb17
  intro a19 p19
  refine q_v p19.s rfl rfl rfl (g_assign rfl p19.v ?_)
  intro a20 p20
  refine wpList_nil ?_
  have kc17 := (((Kps.nil a17).u p18).u p19).u p20
  replace s0 := kc17.k s0 rfl
  replace s1 := kc17.k s1 rfl
  replace s4 := kc17.k s4 rfl
  replace s6 := kc17.k s6 rfl
  replace s7 := kc17.k s7 rfl
  replace s8 := p20.v
  clear kc17
  refine hK16 _ _ ?_
  clear hK16
  refine wp_seq_k fun K19 hK19 => ?_
  refine wp_region_lit ?_
  refine q_v p20.s rfl rfl rfl (g_move rfl s0 ?_)
  intro a21 p21
  refine q_v p21.s rfl rfl rfl (g_move rfl (p21.k s8 rfl) ?_)
  intro a22 p22
  refine q_v p22.s rfl rfl rfl ?_
  refine g_call rfl rfl Try.call12 (arr2 (p22.k p21.v rfl) p22.v) ?_
  refine (newBoard_any (room := room) (ls := zs) _ rfl (by omega) (own_nil o_z17) (Rd.of_own o_z17)).mono ?_
  rintro e w21 ⟨S20, rfl, o_y20, hb20⟩
  refine ⟨_, rfl, ?_⟩
  have d_y20_q13 := o_y20.neBox (lt_of_block h_q13)
  have m_y11_y20 := o_y11.apart o_y20 (Nat.le_refl _)
  have m_y20_z17 := o_y20.newRow o_z17 (Nat.le_refl _)
  replace o_y20 := o_y20.rebase hB.size
  replace h_q13 := keep_below h_q13 hb20
  replace o_y11 := o_y11.below hb20
  replace o_z17 := own_below o_z17 hb20
  replace hB := hB.trans (hb20.mono hB.size)
  clear hb20
  intro a23 p23
  refine q_v p23.s rfl rfl rfl (g_move rfl p23.v ?_)
  intro a24 p24
  refine q_v p24.s rfl rfl rfl (g_extract rfl p24.v rfl ?_)
  intro a25 p25
  refine q_v p25.s rfl rfl rfl (g_extract rfl (p25.k p24.v rfl) rfl ?_)
  intro a26 p26
  refine q_v p26.s rfl rfl rfl ?_
  refine g_alloc rfl Try.zeroValue32 rfl ?_
  intro q22 w23 N_q22
  have n_q13_q22 := N_q22.ne ⟨lt_of_block h_q13⟩
  have n_q22_q13 := n_q13_q22.symm
  have d_y11_q22 := o_y11.neNew N_q22
  have d_z17_q22 := own_ne_new o_z17 N_q22
  have d_y20_q22 := o_y20.neNew N_q22
  have g_q22 : GeB w.heap.size q22 := ⟨Nat.le_trans hB.size N_q22.lo⟩
  replace h_q13 := keep_below h_q13 N_q22.below
  replace o_y11 := o_y11.below N_q22.below
  replace o_z17 := own_below o_z17 N_q22.below
  replace o_y20 := o_y20.below N_q22.below
  replace hB := below_new hB hB.size N_q22
  have h_q22 := N_q22.here
  clear N_q22
  intro a27 p27
  refine q_eff rfl rfl ?_
  refine g_storeB rfl p27.v (p27.k (p26.k p25.v rfl) rfl) Try.sizeOf32 rfl rfl h_q22 rfl ?_
  intro w24 W_w24
  replace h_q13 := keep_wrote h_q13 W_w24 n_q22_q13
  replace h_q22 := W_w24.here
  replace o_y11 := o_y11.wrote W_w24 d_y11_q22
  replace o_z17 := own_wrote o_z17 W_w24 d_z17_q22
  replace o_y20 := o_y20.wrote W_w24 d_y20_q22
  replace hB := below_wrote hB hB.size W_w24 g_q22.le
  clear W_w24
  refine q_v p27.s rfl rfl rfl (g_assign rfl (p27.k p26.v rfl) ?_)
  intro a28 p28
  refine wpList_nil ?_
  have kc20 := ((((((((Kps.nil a20).u p21).u p22).u p23).u p24).u p25).u p26).u p27).u p28
  replace s0 := kc20.k s0 rfl
  replace s1 := kc20.k s1 rfl
  replace s4 := kc20.k s4 rfl
  replace s6 := kc20.k s6 rfl
  replace s7 := kc20.k s7 rfl
  replace s8 := kc20.k s8 rfl
  replace s9 := p28.k p27.v rfl
  replace s10 := p28.v
  clear kc20
  refine hK19 _ _ ?_
  clear hK19
  refine wp_seq_k fun K25 hK25 => ?_
  refine wp_seq_k fun K26 hK26 => ?_
  refine wp_region_lit ?_
  refine q_v p28.s rfl rfl rfl (g_loadB rfl s9 Try.isAgg32 Try.sizeOf32 rfl h_q22 ?_)
  intro a29 p29
  refine q_v p29.s rfl rfl rfl (g_loadB rfl (p29.k s6 rfl) Try.isAgg32 Try.sizeOf32 rfl h_q13 ?_)
  intro a30 p30
  refine q_v p30.s rfl rfl rfl ?_
  refine g_call rfl rfl Try.call25 (arr2 (p30.k p29.v rfl) p30.v) ?_
  refine (eqBoard_same (S := S20) (S2 := S11) (b := (bdNew room zs).1) _ o_y20.rd o_y11.rd (bdNew_w hm)).mono ?_
  rintro e w28 ⟨rfl, hb27⟩
  refine ⟨_, rfl, ?_⟩
  replace h_q13 := keep_below h_q13 hb27
  replace h_q22 := keep_below h_q22 hb27
  replace o_y11 := o_y11.below hb27
  replace o_z17 := own_below o_z17 hb27
  replace o_y20 := o_y20.below hb27
  replace hB := hB.trans (hb27.mono hB.size)
  clear hb27
  intro a31 p31
  refine q_v p31.s rfl rfl rfl (g_not rfl p31.v ?_)
  intro a32 p32
  refine q_v p32.s rfl rfl rfl (g_move rfl p32.v ?_)
  intro a33 p33
  refine q_t p33.s rfl rfl p33.v rfl rfl (g_move rfl (p33.k (p32.k (p31.k (p30.k (p29.k s10 rfl) rfl) rfl) rfl) rfl) ?_)
  intro a34 p34
  refine q_t p34.s rfl rfl (p34.k p33.v rfl) rfl rfl (g_move rfl (p34.k (p33.k (p32.k (p31.k (p30.k (p29.k s7 rfl) rfl) rfl) rfl) rfl) rfl) ?_)
  intro a35 p35
  refine q_t p35.s rfl rfl (p35.k (p34.k p33.v rfl) rfl) rfl rfl (g_neqT rfl Try.underlying4 (p35.k p34.v rfl) p35.v ?_)
  intro a36 p36
  refine q_v p36.s rfl rfl rfl (g_pick_f rfl (p36.k (p35.k (p34.k p33.v rfl) rfl) rfl) p36.v ?_)
  intro a37 p37
  have s44 : a37.eval (.tmp 44) = .bool false := p37.v
  refine wpList_nil ?_
  have kc28 := (((((((((Kps.nil a28).u p29).u p30).u p31).u p32).u p33).u p34).u p35).u p36).u p37
  replace s0 := kc28.k s0 rfl
  replace s1 := kc28.k s1 rfl
  replace s4 := kc28.k s4 rfl
  replace s6 := kc28.k s6 rfl
  replace s7 := kc28.k s7 rfl
  replace s8 := kc28.k s8 rfl
  replace s9 := kc28.k s9 rfl
  replace s10 := kc28.k s10 rfl
  clear kc28
  refine hK26 _ _ ?_
  clear hK26
  refine c_false s44 ?_
  refine wp_skip ?_
  refine hK25 _ _ ?_
  clear hK25
  refine wp_seq_k fun K29 hK29 => ?_
  refine wp_seq_k fun K30 hK30 => ?_
  refine wp_region_lit ?_
  refine q_v p37.s rfl rfl rfl (g_move rfl s8 ?_)
  intro a38 p38
  refine q_v p38.s rfl rfl rfl (g_move rfl (p38.k s1 rfl) ?_)
  intro a39 p39
  refine q_v p39.s rfl rfl rfl ?_
  refine g_call rfl rfl Try.call28 (arr1 p39.v) ?_
  refine (toLimitS_any _ _ _ zs _ rfl (by omega) (hr_b.below hB)).mono ?_
  rintro e w32 ⟨g31, rfl, o_z31, hb31⟩
  refine ⟨_, rfl, ?_⟩
  replace o_z31 := own_base (base := w.heap.size) o_z31 hB.size
  replace h_q13 := keep_below h_q13 hb31
  replace h_q22 := keep_below h_q22 hb31
  replace o_y11 := o_y11.below hb31
  replace o_z17 := own_below o_z17 hb31
  replace o_y20 := o_y20.below hb31
  replace hB := hB.trans (hb31.mono hB.size)
  clear hb31
  intro a40 p40
  refine q_v p40.s rfl rfl rfl ?_
  refine g_call rfl rfl Try.call29 (arr2 (p40.k (p39.k p38.v rfl) rfl) p40.v) ?_
  refine (eqLimitS_same _ _ _ _ _ _ zs _ rfl rfl (by omega) (Rd.of_own o_z17) (Rd.of_own o_z31)).mono ?_
  rintro e w34 ⟨rfl, hb33⟩
  refine ⟨_, rfl, ?_⟩
  replace h_q13 := keep_below h_q13 hb33
  replace h_q22 := keep_below h_q22 hb33
  replace o_y11 := o_y11.below hb33
  replace o_z17 := own_below o_z17 hb33
  replace o_y20 := o_y20.below hb33
  replace hB := hB.trans (hb33.mono hB.size)
  clear hb33
  intro a41 p41
  refine q_v p41.s rfl rfl rfl (g_not rfl p41.v ?_)
  intro a42 p42
  refine wpList_nil ?_
  have kc37 := (((((Kps.nil a37).u p38).u p39).u p40).u p41).u p42
  replace s0 := kc37.k s0 rfl
  replace s1 := kc37.k s1 rfl
  replace s4 := kc37.k s4 rfl
  replace s6 := kc37.k s6 rfl
  replace s7 := kc37.k s7 rfl
  replace s8 := kc37.k s8 rfl
  replace s9 := kc37.k s9 rfl
  replace s10 := kc37.k s10 rfl
  replace s49 := p42.v
  clear kc37
  refine hK30 _ _ ?_
  clear hK30
  refine c_false s49 ?_
  refine wp_skip ?_
  refine hK29 _ _ ?_
  clear hK29
  refine wp_seq_k fun K35 hK35 => ?_
  refine wp_region_lit ?_
  refine q_v p42.s rfl rfl rfl (g_assign rfl rfl ?_)
  intro a43 p43
  have s11 : a43.eval (.tmp 11) = .int .i64 1 := p43.v
  refine wpList_nil ?_
  replace s0 := p43.k s0 rfl
  replace s1 := p43.k s1 rfl
  replace s4 := p43.k s4 rfl
  replace s6 := p43.k s6 rfl
  replace s7 := p43.k s7 rfl
  replace s8 := p43.k s8 rfl
  replace s9 := p43.k s9 rfl
  replace s10 := p43.k s10 rfl
  refine hK35 _ _ ?_
  clear hK35
  refine wp_seq_k fun K36 hK36 => ?_
  refine wp_region_lit ?_
  refine q_v p43.s rfl rfl rfl (g_move rfl s8 ?_)
  intro a44 p44
  refine q_v p44.s rfl rfl rfl (g_move rfl (p44.k s11 rfl) ?_)
  intro a45 p45
  refine q_v p45.s rfl rfl rfl ?_
  refine g_call rfl rfl Try.call30 (arr2 (p45.k p44.v rfl) p45.v) ?_
  refine (markLimitS_any _ _ _ _ _ 1 _ (by omega) (by omega) (by omega) o_z17).mono ?_
  rintro e v37 ⟨rfl, oo37, gg37⟩
  refine ⟨_, rfl, ?_⟩
  replace h_q13 := keep_grown h_q13 gg37 d_z17_q13
  replace h_q22 := keep_grown h_q22 gg37 d_z17_q22
  replace o_y11 := o_y11.grown gg37 m_y11_z17
  replace o_y20 := o_y20.grown gg37 m_y20_z17
  replace hB := below_grown hB hB.size gg37 g_z17
  clear gg37
  intro a46 p46
  refine q_v p46.s rfl rfl rfl (g_assign rfl p46.v ?_)
  intro a47 p47
  refine wpList_nil ?_
  have kc43 := ((((Kps.nil a43).u p44).u p45).u p46).u p47
  replace s0 := kc43.k s0 rfl
  replace s1 := kc43.k s1 rfl
  replace s4 := kc43.k s4 rfl
  replace s6 := kc43.k s6 rfl
  replace s7 := kc43.k s7 rfl
  replace s9 := kc43.k s9 rfl
  replace s10 := kc43.k s10 rfl
  replace s11 := p47.v
  clear kc43
  refine hK36 _ _ ?_
  clear hK36
  refine wp_seq_k fun K38 hK38 => ?_
  refine wp_seq_k fun K39 hK39 => ?_
  refine wp_region_lit ?_
  refine q_v p47.s rfl rfl rfl (g_move rfl s11 ?_)
  intro a48 p48
  refine q_v p48.s rfl rfl rfl (g_lss rfl p48.v rfl ?_)
  intro a49 p49
  have s54 : a49.eval (.tmp 54) = .bool false := (p49.v).trans (congrArg Value.bool (decide_eq_false (by omega)))
  refine q_v p49.s rfl rfl rfl (g_move rfl s54 ?_)
  intro a50 p50
  refine q_t p50.s rfl rfl p50.v rfl rfl (g_loadB rfl (p50.k (p49.k (p48.k s9 rfl) rfl) rfl) Try.isAgg32 Try.sizeOf32 rfl h_q22 ?_)
  intro a51 p51
  refine q_t p51.s rfl rfl (p51.k p50.v rfl) rfl rfl (g_loadB rfl (p51.k (p50.k (p49.k (p48.k s6 rfl) rfl) rfl) rfl) Try.isAgg32 Try.sizeOf32 rfl h_q13 ?_)
  intro a52 p52
  refine q_t p52.s rfl rfl (p52.k (p51.k p50.v rfl) rfl) rfl rfl ?_
  refine g_call rfl rfl Try.call25 (arr2 (p52.k p51.v rfl) p52.v) ?_
  refine (eqBoard_same (S := S20) (S2 := S11) (b := (bdNew room zs).1) _ o_y20.rd o_y11.rd (bdNew_w hm)).mono ?_
  rintro e w41 ⟨rfl, hb40⟩
  refine ⟨_, rfl, ?_⟩
  replace h_q13 := keep_below h_q13 hb40
  replace h_q22 := keep_below h_q22 hb40
  replace o_y11 := o_y11.below hb40
  replace o_y20 := o_y20.below hb40
  replace hB := hB.trans (hb40.mono hB.size)
  clear hb40
  intro a53 p53
  refine q_t p53.s rfl rfl (p53.k (p52.k (p51.k p50.v rfl) rfl) rfl) rfl rfl (g_not rfl p53.v ?_)
  intro a54 p54
  refine q_v p54.s rfl rfl rfl (g_pick_f rfl (p54.k (p53.k (p52.k (p51.k p50.v rfl) rfl) rfl) rfl) p54.v ?_)
  intro a55 p55
  have s60 : a55.eval (.tmp 60) = .bool false := p55.v
  refine q_v p55.s rfl rfl rfl (g_move rfl s60 ?_)
  intro a56 p56
  refine q_t p56.s rfl rfl p56.v rfl rfl (g_move rfl (p56.k (p55.k (p54.k (p53.k (p52.k (p51.k (p50.k (p49.k (p48.k s10 rfl) rfl) rfl) rfl) rfl) rfl) rfl) rfl) rfl) ?_)
  intro a57 p57
  refine q_t p57.s rfl rfl (p57.k p56.v rfl) rfl rfl (g_move rfl (p57.k (p56.k (p55.k (p54.k (p53.k (p52.k (p51.k (p50.k (p49.k (p48.k s7 rfl) rfl) rfl) rfl) rfl) rfl) rfl) rfl) rfl) rfl) ?_)
  intro a58 p58
  refine q_t p58.s rfl rfl (p58.k (p57.k p56.v rfl) rfl) rfl rfl (g_neqT rfl Try.underlying4 (p58.k p57.v rfl) p58.v ?_)
  intro a59 p59
  refine q_v p59.s rfl rfl rfl (g_pick_f rfl (p59.k (p58.k (p57.k p56.v rfl) rfl) rfl) p59.v ?_)
  intro a60 p60
  have s65 : a60.eval (.tmp 65) = .bool false := p60.v
  refine wpList_nil ?_
  have kc47 := (((((((((((((Kps.nil a47).u p48).u p49).u p50).u p51).u p52).u p53).u p54).u p55).u p56).u p57).u p58).u p59).u p60
  replace s0 := kc47.k s0 rfl
  replace s1 := kc47.k s1 rfl
  replace s4 := kc47.k s4 rfl
  replace s6 := kc47.k s6 rfl
  replace s7 := kc47.k s7 rfl
  replace s9 := kc47.k s9 rfl
  clear kc47
  refine hK39 _ _ ?_
  clear hK39
  refine c_false s65 ?_
  refine wp_skip ?_
  refine hK38 _ _ ?_
  clear hK38
  refine wp_seq_k fun K42 hK42 => ?_
  refine wp_region_lit ?_
  refine q_v p60.s rfl rfl rfl (g_assign rfl rfl ?_)
  intro a61 p61
  have s12 : a61.eval (.tmp 12) = .int .i64 1 := p61.v
  refine wpList_nil ?_
  replace s0 := p61.k s0 rfl
  replace s1 := p61.k s1 rfl
  replace s4 := p61.k s4 rfl
  replace s6 := p61.k s6 rfl
  replace s7 := p61.k s7 rfl
  replace s9 := p61.k s9 rfl
  refine hK42 _ _ ?_
  clear hK42
  refine wp_seq_k fun K43 hK43 => ?_
  refine wp_region_lit ?_
  refine q_v p61.s rfl rfl rfl (g_loadB rfl s9 Try.isAgg32 Try.sizeOf32 rfl h_q22 ?_)
  intro a62 p62
  refine q_v p62.s rfl rfl rfl (g_move rfl (p62.k s12 rfl) ?_)
  intro a63 p63
  refine q_v p63.s rfl rfl rfl ?_
  refine g_call rfl rfl Try.call31 (arr2 (p63.k p62.v rfl) p63.v) ?_
  refine (markBoard_any (S := S20) (b := (bdNew room zs).1) (k := 1) _ (by omega) (by omega) (bdNew_w hm) hB.size o_y20).mono ?_
  rintro e w45 ⟨rfl, oo44, hC44⟩
  refine ⟨_, rfl, ?_⟩
  replace h_q13 := keep_chg h_q13 hC44 d_y20_q13
  replace h_q22 := keep_chg h_q22 hC44 d_y20_q22
  replace o_y11 := o_y11.chg hC44 m_y11_y20
  replace hB := below_chg hB hB.size hC44 o_y20
  replace o_y20 := oo44
  clear hC44
  intro a64 p64
  refine q_v p64.s rfl rfl rfl (g_assign rfl p64.v ?_)
  intro a65 p65
  refine wpList_nil ?_
  have kc61 := ((((Kps.nil a61).u p62).u p63).u p64).u p65
  replace s0 := kc61.k s0 rfl
  replace s1 := kc61.k s1 rfl
  replace s4 := kc61.k s4 rfl
  replace s6 := kc61.k s6 rfl
  replace s7 := kc61.k s7 rfl
  replace s9 := kc61.k s9 rfl
  replace s12 := p65.v
  clear kc61
  refine hK43 _ _ ?_
  clear hK43
  refine wp_seq_k fun K46 hK46 => ?_
  refine wp_region_lit ?_
  refine q_v p65.s rfl rfl rfl (g_assign rfl rfl ?_)
  intro a66 p66
  have s13 : a66.eval (.tmp 13) = .int .i64 1 := p66.v
  refine wpList_nil ?_
  replace s0 := p66.k s0 rfl
  replace s1 := p66.k s1 rfl
  replace s4 := p66.k s4 rfl
  replace s6 := p66.k s6 rfl
  replace s7 := p66.k s7 rfl
  replace s9 := p66.k s9 rfl
  replace s12 := p66.k s12 rfl
  refine hK46 _ _ ?_
  clear hK46
  refine wp_seq_k fun K47 hK47 => ?_
  refine wp_region_lit ?_
  refine q_v p66.s rfl rfl rfl (g_loadB rfl s9 Try.isAgg32 Try.sizeOf32 rfl h_q22 ?_)
  intro a67 p67
  refine q_v p67.s rfl rfl rfl (g_move rfl (p67.k s13 rfl) ?_)
  intro a68 p68
  refine q_v p68.s rfl rfl rfl ?_
  refine g_call rfl rfl Try.call32 (arr2 (p68.k p67.v rfl) p68.v) ?_
  refine (heldBoard_any (S := S20) (b := ((bdNew room zs).1)) (k := 1) _ (by omega) (by omega) (bdNew_w hm) o_y20.rd).mono ?_
  rintro e w49 ⟨rfl, hb48⟩
  refine ⟨_, rfl, ?_⟩
  replace h_q13 := keep_below h_q13 hb48
  replace h_q22 := keep_below h_q22 hb48
  replace o_y11 := o_y11.below hb48
  replace o_y20 := o_y20.below hb48
  replace hB := hB.trans (hb48.mono hB.size)
  clear hb48
  intro a69 p69
  refine q_v p69.s rfl rfl rfl (g_assign rfl p69.v ?_)
  intro a70 p70
  refine wpList_nil ?_
  have kc66 := ((((Kps.nil a66).u p67).u p68).u p69).u p70
  replace s0 := kc66.k s0 rfl
  replace s1 := kc66.k s1 rfl
  replace s4 := kc66.k s4 rfl
  replace s6 := kc66.k s6 rfl
  replace s7 := kc66.k s7 rfl
  replace s9 := kc66.k s9 rfl
  replace s12 := kc66.k s12 rfl
  replace s13 := p70.v
  clear kc66
  refine hK47 _ _ ?_
  clear hK47
  refine wp_seq_k fun K50 hK50 => ?_
  refine wp_seq_k fun K51 hK51 => ?_
  refine wp_region_lit ?_
  refine q_v p70.s rfl rfl rfl (g_move rfl s13 ?_)
  intro a71 p71
  refine q_v p71.s rfl rfl rfl (g_lss rfl p71.v rfl ?_)
  intro a72 p72
  have s73 : a72.eval (.tmp 73) = .bool false := (p72.v).trans (congrArg Value.bool (decide_eq_false (by omega)))
  refine wpList_nil ?_
  replace s0 := p72.k (p71.k s0 rfl) rfl
  replace s1 := p72.k (p71.k s1 rfl) rfl
  replace s4 := p72.k (p71.k s4 rfl) rfl
  replace s6 := p72.k (p71.k s6 rfl) rfl
  replace s7 := p72.k (p71.k s7 rfl) rfl
  replace s9 := p72.k (p71.k s9 rfl) rfl
  replace s12 := p72.k (p71.k s12 rfl) rfl
  replace s13 := p72.k (p71.k s13 rfl) rfl
  refine hK51 _ _ ?_
  clear hK51
  refine c_false s73 ?_
  refine wp_skip ?_
  refine hK50 _ _ ?_
  clear hK50
  refine wp_seq_k fun K52 hK52 => ?_
  refine wp_seq_k fun K53 hK53 => ?_
  refine wp_region_lit ?_
  refine q_v p72.s rfl rfl rfl (g_move rfl s13 ?_)
  intro a73 p73
  refine q_v p73.s rfl rfl rfl (g_move rfl (p73.k s12 rfl) ?_)
  intro a74 p74
  refine q_v p74.s rfl rfl rfl (g_neq rfl (p74.k p73.v rfl) p74.v ?_)
  intro a75 p75
  have s76 : a75.eval (.tmp 76) = .bool false := (p75.v).trans (congrArg (fun b => Value.bool (!b)) (decide_eq_true rfl))
  refine wpList_nil ?_
  have kc72 := (((Kps.nil a72).u p73).u p74).u p75
  replace s0 := kc72.k s0 rfl
  replace s1 := kc72.k s1 rfl
  replace s4 := kc72.k s4 rfl
  replace s6 := kc72.k s6 rfl
  replace s7 := kc72.k s7 rfl
  replace s9 := kc72.k s9 rfl
  replace s12 := kc72.k s12 rfl
  replace s13 := kc72.k s13 rfl
  clear kc72
  refine hK53 _ _ ?_
  clear hK53
  refine c_false s76 ?_
  refine wp_skip ?_
  refine hK52 _ _ ?_
  clear hK52
  refine wp_seq_k fun K54 hK54 => ?_
  refine wp_region_lit ?_
  refine q_v p75.s rfl rfl rfl (g_move rfl s0 ?_)
  intro a76 p76
  refine q_v p76.s rfl rfl rfl (g_move rfl (p76.k s1 rfl) ?_)
  intro a77 p77
  refine q_v p77.s rfl rfl rfl ?_
  refine g_call rfl rfl Try.call28 (arr1 p77.v) ?_
  refine (toLimitS_any _ _ _ zs _ rfl (by omega) (hr_b.below hB)).mono ?_
  rintro e w56 ⟨g55, rfl, o_z55, hb55⟩
  refine ⟨_, rfl, ?_⟩
  replace o_z55 := own_base (base := w.heap.size) o_z55 hB.size
  replace h_q13 := keep_below h_q13 hb55
  replace h_q22 := keep_below h_q22 hb55
  replace o_y11 := o_y11.below hb55
  replace o_y20 := o_y20.below hb55
  replace hB := hB.trans (hb55.mono hB.size)
  clear hb55
  intro a78 p78
  refine q_v p78.s rfl rfl rfl ?_
  refine g_call rfl rfl Try.call12 (arr2 (p78.k (p77.k p76.v rfl) rfl) p78.v) ?_
  refine (newBoard_any (room := room) (ls := zs) _ rfl (by omega) (own_nil o_z55) (Rd.of_own o_z55)).mono ?_
  rintro e w58 ⟨S57, rfl, o_y57, hb57⟩
  refine ⟨_, rfl, ?_⟩
  replace o_y57 := o_y57.rebase hB.size
  replace h_q13 := keep_below h_q13 hb57
  replace h_q22 := keep_below h_q22 hb57
  replace o_y11 := o_y11.below hb57
  replace o_y20 := o_y20.below hb57
  replace hB := hB.trans (hb57.mono hB.size)
  clear hb57
  intro a79 p79
  refine q_v p79.s rfl rfl rfl (g_move rfl p79.v ?_)
  intro a80 p80
  refine q_v p80.s rfl rfl rfl (g_extract rfl p80.v rfl ?_)
  intro a81 p81
  refine q_v p81.s rfl rfl rfl (g_extract rfl (p81.k p80.v rfl) rfl ?_)
  intro a82 p82
  refine q_v p82.s rfl rfl rfl ?_
  refine g_alloc rfl Try.zeroValue32 rfl ?_
  intro q59 w60 N_q59
  have n_q13_q59 := N_q59.ne ⟨lt_of_block h_q13⟩
  have n_q59_q13 := n_q13_q59.symm
  have n_q22_q59 := N_q59.ne ⟨lt_of_block h_q22⟩
  have n_q59_q22 := n_q22_q59.symm
  have d_y11_q59 := o_y11.neNew N_q59
  have d_y20_q59 := o_y20.neNew N_q59
  have d_y57_q59 := o_y57.neNew N_q59
  have g_q59 : GeB w.heap.size q59 := ⟨Nat.le_trans hB.size N_q59.lo⟩
  replace h_q13 := keep_below h_q13 N_q59.below
  replace h_q22 := keep_below h_q22 N_q59.below
  replace o_y11 := o_y11.below N_q59.below
  replace o_y20 := o_y20.below N_q59.below
  replace o_y57 := o_y57.below N_q59.below
  replace hB := below_new hB hB.size N_q59
  have h_q59 := N_q59.here
  clear N_q59
  intro a83 p83
  refine q_eff rfl rfl ?_
  refine g_storeB rfl p83.v (p83.k (p82.k p81.v rfl) rfl) Try.sizeOf32 rfl rfl h_q59 rfl ?_
  intro w61 W_w61
  replace h_q13 := keep_wrote h_q13 W_w61 n_q59_q13
  replace h_q22 := keep_wrote h_q22 W_w61 n_q59_q22
  replace h_q59 := W_w61.here
  replace o_y11 := o_y11.wrote W_w61 d_y11_q59
  replace o_y20 := o_y20.wrote W_w61 d_y20_q59
  replace o_y57 := o_y57.wrote W_w61 d_y57_q59
  replace hB := below_wrote hB hB.size W_w61 g_q59.le
  clear W_w61
  refine q_v p83.s rfl rfl rfl (g_assign rfl (p83.k p82.v rfl) ?_)
  intro a84 p84
  refine wpList_nil ?_
  have kc75 := (((((((((Kps.nil a75).u p76).u p77).u p78).u p79).u p80).u p81).u p82).u p83).u p84
  replace s4 := kc75.k s4 rfl
  replace s6 := kc75.k s6 rfl
  replace s7 := kc75.k s7 rfl
  replace s9 := kc75.k s9 rfl
  replace s12 := kc75.k s12 rfl
  replace s13 := kc75.k s13 rfl
  replace s14 := p84.k p83.v rfl
  replace s15 := p84.v
  clear kc75
  refine hK54 _ _ ?_
  clear hK54
  refine wp_seq_k fun K62 hK62 => ?_
  refine wp_seq_k fun K63 hK63 => ?_
  refine wp_region_lit ?_
  refine q_v p84.s rfl rfl rfl (g_loadB rfl s14 Try.isAgg32 Try.sizeOf32 rfl h_q59 ?_)
  intro a85 p85
  refine q_v p85.s rfl rfl rfl (g_loadB rfl (p85.k s6 rfl) Try.isAgg32 Try.sizeOf32 rfl h_q13 ?_)
  intro a86 p86
  refine q_v p86.s rfl rfl rfl ?_
  refine g_call rfl rfl Try.call25 (arr2 (p86.k p85.v rfl) p86.v) ?_
  refine (eqBoard_same (S := S57) (S2 := S11) (b := (bdNew room zs).1) _ o_y57.rd o_y11.rd (bdNew_w hm)).mono ?_
  rintro e w65 ⟨rfl, hb64⟩
  refine ⟨_, rfl, ?_⟩
  replace h_q22 := keep_below h_q22 hb64
  replace o_y20 := o_y20.below hb64
  replace hB := hB.trans (hb64.mono hB.size)
  clear hb64
  intro a87 p87
  refine q_v p87.s rfl rfl rfl (g_not rfl p87.v ?_)
  intro a88 p88
  refine q_v p88.s rfl rfl rfl (g_move rfl p88.v ?_)
  intro a89 p89
  refine q_t p89.s rfl rfl p89.v rfl rfl (g_move rfl (p89.k (p88.k (p87.k (p86.k (p85.k s15 rfl) rfl) rfl) rfl) rfl) ?_)
  intro a90 p90
  refine q_t p90.s rfl rfl (p90.k p89.v rfl) rfl rfl (g_move rfl (p90.k (p89.k (p88.k (p87.k (p86.k (p85.k s7 rfl) rfl) rfl) rfl) rfl) rfl) ?_)
  intro a91 p91
  refine q_t p91.s rfl rfl (p91.k (p90.k p89.v rfl) rfl) rfl rfl (g_neqT rfl Try.underlying4 (p91.k p90.v rfl) p91.v ?_)
  intro a92 p92
  refine q_v p92.s rfl rfl rfl (g_pick_f rfl (p92.k (p91.k (p90.k p89.v rfl) rfl) rfl) p92.v ?_)
  intro a93 p93
  have s92 : a93.eval (.tmp 92) = .bool false := p93.v
  refine wpList_nil ?_
  have kc84 := (((((((((Kps.nil a84).u p85).u p86).u p87).u p88).u p89).u p90).u p91).u p92).u p93
  replace s4 := kc84.k s4 rfl
  replace s9 := kc84.k s9 rfl
  replace s12 := kc84.k s12 rfl
  replace s13 := kc84.k s13 rfl
  clear kc84
  refine hK63 _ _ ?_
  clear hK63
  refine c_false s92 ?_
  refine wp_skip ?_
  refine hK62 _ _ ?_
  clear hK62
  refine wp_seq_k fun K66 hK66 => ?_
  refine wp_region_lit ?_
  refine q_v p93.s rfl rfl rfl (g_assign rfl rfl ?_)
  intro a94 p94
  have s13 : a94.eval (.tmp 13) = .int .i64 1 := p94.v
  refine wpList_nil ?_
  replace s4 := p94.k s4 rfl
  replace s9 := p94.k s9 rfl
  replace s12 := p94.k s12 rfl
  refine hK66 _ _ ?_
  clear hK66
  refine wp_seq_k fun K67 hK67 => ?_
  refine wp_region_lit ?_
  refine q_v p94.s rfl rfl rfl (g_loadB rfl s9 Try.isAgg32 Try.sizeOf32 rfl h_q22 ?_)
  intro a95 p95
  refine q_v p95.s rfl rfl rfl (g_move rfl (p95.k s13 rfl) ?_)
  intro a96 p96
  refine q_v p96.s rfl rfl rfl ?_
  refine g_call rfl rfl Try.call32 (arr2 (p96.k p95.v rfl) p96.v) ?_
  refine (heldBoard_any (S := S20) (b := ((bdNew room zs).1)) (k := 1) _ (by omega) (by omega) (bdNew_w hm) o_y20.rd).mono ?_
  rintro e w69 ⟨rfl, hb68⟩
  refine ⟨_, rfl, ?_⟩
  replace hB := hB.trans (hb68.mono hB.size)
  clear hb68
  intro a97 p97
  refine q_v p97.s rfl rfl rfl (g_assign rfl p97.v ?_)
  intro a98 p98
  refine wpList_nil ?_
  have kc94 := ((((Kps.nil a94).u p95).u p96).u p97).u p98
  replace s4 := kc94.k s4 rfl
  replace s12 := kc94.k s12 rfl
  replace s13 := p98.v
  clear kc94
  refine hK67 _ _ ?_
  clear hK67
  refine wp_seq_k fun K70 hK70 => ?_
  refine wp_seq_k fun K71 hK71 => ?_
  refine wp_region_lit ?_
  refine q_v p98.s rfl rfl rfl (g_move rfl s13 ?_)
  intro a99 p99
  refine q_v p99.s rfl rfl rfl (g_lss rfl p99.v rfl ?_)
  intro a100 p100
  have s97 : a100.eval (.tmp 97) = .bool false := (p100.v).trans (congrArg Value.bool (decide_eq_false (by omega)))
  refine wpList_nil ?_
  replace s4 := p100.k (p99.k s4 rfl) rfl
  replace s12 := p100.k (p99.k s12 rfl) rfl
  replace s13 := p100.k (p99.k s13 rfl) rfl
  refine hK71 _ _ ?_
  clear hK71
  refine c_false s97 ?_
  refine wp_skip ?_
  refine hK70 _ _ ?_
  clear hK70
  refine wp_seq_k fun K72 hK72 => ?_
  refine wp_seq_k fun K73 hK73 => ?_
  refine wp_region_lit ?_
  refine q_v p100.s rfl rfl rfl (g_move rfl s13 ?_)
  intro a101 p101
  refine q_v p101.s rfl rfl rfl (g_move rfl (p101.k s12 rfl) ?_)
  intro a102 p102
  refine q_v p102.s rfl rfl rfl (g_neq rfl (p102.k p101.v rfl) p102.v ?_)
  intro a103 p103
  have s100 : a103.eval (.tmp 100) = .bool false := (p103.v).trans (congrArg (fun b => Value.bool (!b)) (decide_eq_true rfl))
  refine wpList_nil ?_
  replace s4 := p103.k (p102.k (p101.k s4 rfl) rfl) rfl
  refine hK73 _ _ ?_
  clear hK73
  refine c_false s100 ?_
  refine wp_skip ?_
  refine hK72 _ _ ?_
  clear hK72
  refine wp_seq_k fun K74 hK74 => ?_
  refine wp_region_lit ?_
  refine q_v p103.s rfl rfl rfl (g_assign rfl rfl ?_)
  intro a104 p104
  have s4 : a104.eval (.tmp 4) = .bool true := p104.v
  refine wpList_nil ?_
  refine hK74 _ _ ?_
  clear hK74
  refine wp_ret ?_
  try dsimp only [Exit.then, Exit.inBlock]
  refine ret1 p104.s Try.results6 (res_tmp s4) ?_
  exact ⟨rfl, hB⟩

/-! ### The row's step, written by a program of ours (frame.py) -/
namespace fnExactNewBoardDone
open Go.ChangeShapes Go.WideShapes Go.ChangeAt
open Go.ChangeMaps (open_string)
theorem own : ownKnob Try.prog.godebug = none := by kernel_rfl
theorem laidOut : laidOutB Try.prog = true := by kernel_rfl
set_option maxRecDepth 100000 in
theorem lifted (os : Os) (started : os.Started) (H : Type) (enc : TypeId × Value → H) :
    ReturnsInHanded {} Try.checked os 6 .any (Rows.fnExactNewBoardSpec.pre6 enc Try.prog Try.f6 Rows.fnExactNewBoardRow.domain false) (Rows.fnExactNewBoardSpec.post enc Try.prog Try.f6 false true false false) := by
  refine returnsInHanded_of_change (C := Try.checked) own started (by kernel_rfl) Try.func6
    (ChangeSpec.witness6 (enc := enc) (C := Try.checked) false ⟨#[], #[.int .i64 0, .slice none 0 0], []⟩ 8 (by kernel_rfl) (by kernel_rfl) (by kernel_rfl) (by kernel_rfl)) ?_
  intro W base args ds gs before hval0 hW hcnd _
  have hval : ∀ (j : Nat) t v, Try.f6.params[j]? = some t → args[j]? = some v → Value.okWide Try.prog W .any base t v := hval0
  have hW' := hW
  obtain ⟨p, q, hA0, hV, rfl, hfz, hnd⟩ := hW
  have hA : DataW.TrodAll enc Try.prog W 0 (fun _ => true) true Try.f6.params.toList args.toList ds p := hA0
  rw [Try.params6] at hA hval
  obtain ⟨v0, vs0, d0, ds0, p0, q0, hargs, rfl, rfl, h0, r0⟩ := trodAll_cons hA
  obtain ⟨v1, vs1, d1, ds1, p1, q1, rfl, rfl, rfl, h1, r1⟩ := trodAll_cons r0
  obtain ⟨rfl, rfl, rfl⟩ := trodAll_nil r1
  obtain rfl : args = #[v0, v1] := by cases args; simp_all
  obtain ⟨rfl, rfl⟩ := trodVars_none hV
  have k0 := h0
  have lt0 : ∀ x ∈ p0, x.block < W.heap.size := by obtain ⟨m, hm⟩ := k0; exact DataW.trod_lt m _ _ _ hm
  have k1 := h1
  have lt1 : ∀ x ∈ p1, x.block < W.heap.size := by obtain ⟨m, hm⟩ := k1; exact DataW.trod_lt m _ _ _ hm
  obtain ⟨a0, rfl, rfl, rfl, w0⟩ := open_int Try.underlying3 (hval 0 3 v0 rfl rfl) h0
  obtain ⟨A1, n1, c1, rs1, hv1, hlen1, hnc1, hcm1, hrd1, hwf1⟩ := open_slice_of cLimit wfLimit 3 cLimit_len Try.underlying55 (by kernel_rfl) (by decide) (fun _ _ _ hh => el_Limit hh) h1.choose_spec
  obtain ⟨_, _, _, rfl⟩ := okWide_slice Try.underlying55 (hval 1 55 v1 rfl rfl)
  simp only [Value.cells, List.cons.injEq, Value.slice.injEq, and_true] at hv1
  obtain ⟨rfl, rfl, rfl⟩ := hv1
  clear hA0 hval0
  refine (fnExactNewBoard_walk (w := W) a0 (i64_of_wf w0) _ _ _ rs1 hlen1 hnc1 hcm1 hrd1).mono fun e W' ⟨he, bel⟩ => ?_
  subst he
  exact ⟨_, rfl, _, _, _, [], _, [], hW', trodAll_mk1 (shut_bool Try.underlying4 _), (trodAll_cons_mk (Below.trod laidOut (by kernel_rfl) (of_decide_eq_true (by kernel_rfl)) k0 bel lt0) (trodAll_cons_mk (Below.trod laidOut (by kernel_rfl) (of_decide_eq_true (by kernel_rfl)) k1 bel lt1) trodAll_mk0)), rfl, bel.frame _, fun h => by cases h⟩
theorem proved : Rows.FnExactNewBoardSaid :=
  OpenClaim.holds_of_wide 6 Try.f6 rfl rfl rfl rfl rfl rfl rfl ⟨rfl, rfl, rfl, rfl, rfl⟩ rfl rfl rfl rfl rfl (by kernel_rfl) Try.func6 (by kernel_rfl)
    (of_decide_eq_true (by kernel_rfl)) (by unfold Func.isWrapper; first | (rw [if_pos (by decide +kernel)]; kernel_rfl) | (rw [if_neg (by decide +kernel)]; exact ⟨rfl, rfl⟩))
    (fun os started H enc _ => lifted os started H enc)
end fnExactNewBoardDone
end Go.Proofs.Ytoccapmoehdohaa
