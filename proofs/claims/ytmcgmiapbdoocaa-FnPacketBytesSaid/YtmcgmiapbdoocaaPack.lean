/- Contracts: a packet is packed, in the program and in the reference. No condition. -/
import Derived.Test.YtmcgmiapbdoocaaPkr
import Derived.Test.YtmcgmiapbdoocaaFlowMem
namespace Go.Proofs.Ytmcgmiapbdoocaa
open Go.RowKit

def packR (ch ct : Int) (rest : List UInt8) (ds : List Int) (x : EPacket) : (List UInt8 × List Int) × Bool :=
  if pkrOk ch ct rest ds && pkOk x && pkrOk ch ct (rest ++ pkEnc x) (ds ++ [((rest.length : Nat) : Int)]) then ((rest ++ pkEnc x, ds ++ [((rest.length : Nat) : Int)]), true) else ((rest, ds), false)
def PRes (base : Nat) (w : World) (ch ct : Int) (p : List UInt8 × List Int) (v : Value) : Prop :=
  ∃ (A : Option Addr) (n c : Nat), v = .agg #[.int .i64 ch, .int .i64 ct, .string ⟨p.1.toArray⟩, .slice A n c] ∧ p.2.length = n ∧ w.ownsRow base 3 1 (.slice A n c) n (p.2.flatMap cI)
set_option maxRecDepth 100000 in
set_option maxHeartbeats 4000000 in
theorem packPacket_any (ch ct : Int) (rest : List UInt8) (B : Option Addr) (m dp : Nat) (ds : List Int) (x : EPacket) (w : World) (hx : rest.length ≤ 1048576) (hm : ds.length = m) (hbm : m ≤ 1048576) (hnn_d : B = none → m = 0 ∧ dp = 0) (hr_d : Rd w 1 B m (ds.flatMap cI)) (hTx : Txt x.f2) :
    Calls Try.prog 9 #[.agg #[.int .i64 ch, .int .i64 ct, .string ⟨rest.toArray⟩, .slice B m dp], .agg #[.int .i64 x.f0, .int .i64 x.f1, .string ⟨(x.f2).toArray⟩]] w fun e w' => ∃ v, e = .returned v ∧ (∃ p, v = .tuple #[p, .bool (packR ch ct rest ds x).2] ∧ PRes w.heap.size w' ch ct (packR ch ct rest ds x).1 p) ∧ Below w.heap.size w w' := by
  subst hm
  refine enter 39 Try.func9 rfl rfl (Nat.le_of_ble_eq_true rfl) ?_
  intro a0 hs hargs
  have s0 : a0.eval (.tmp 0) = .agg #[.int .i64 ch, .int .i64 ct, .string ⟨(rest).toArray⟩, .slice B ds.length dp] := hargs 0 _ rfl
  have s1 : a0.eval (.tmp 1) = .agg #[.int .i64 x.f0, .int .i64 x.f1, .string ⟨(x.f2).toArray⟩] := hargs 1 _ rfl
  clear hargs
  have hB : Below w.heap.size w w := Below.refl _ _
  have hel := pkEnc_len x
  refine wp_seq_k fun K1 hK1 => ?_
  refine wp_region_lit ?_
  refine q_val rfl rfl ?_
  refine g_box rfl s0 rfl ?_
  intro q2 w3 N_q2
  have g_q2 : GeB w.heap.size q2 := ⟨Nat.le_trans hB.size N_q2.lo⟩
  replace hB := below_new hB hB.size N_q2
  have h_q2 := N_q2.here
  clear N_q2
  intro a1 p1
  have s2 : a1.eval (.tmp 2) = .pointer (some ⟨q2, 0, none⟩) := p1.at hs (by decide)
  replace hs := p1.st hs
  refine q_val rfl rfl ?_
  refine g_box rfl ((p1.ne rfl).trans s1) rfl ?_
  intro q4 w5 N_q4
  have n_q2_q4 := N_q4.ne ⟨lt_of_block h_q2⟩
  have n_q4_q2 := n_q2_q4.symm
  have g_q4 : GeB w.heap.size q4 := ⟨Nat.le_trans hB.size N_q4.lo⟩
  replace h_q2 := keep_below h_q2 N_q4.below
  replace hB := below_new hB hB.size N_q4
  have h_q4 := N_q4.here
  clear N_q4
  intro a2 p2
  have s3 : a2.eval (.tmp 3) = .pointer (some ⟨q4, 0, none⟩) := p2.at hs (by decide)
  replace hs := p2.st hs
  refine q_val rfl rfl ?_
  refine g_alloc rfl Try.zeroValue28 rfl ?_
  intro q6 w7 N_q6
  have n_q2_q6 := N_q6.ne ⟨lt_of_block h_q2⟩
  have n_q6_q2 := n_q2_q6.symm
  have n_q4_q6 := N_q6.ne ⟨lt_of_block h_q4⟩
  have n_q6_q4 := n_q4_q6.symm
  have g_q6 : GeB w.heap.size q6 := ⟨Nat.le_trans hB.size N_q6.lo⟩
  replace h_q2 := keep_below h_q2 N_q6.below
  replace h_q4 := keep_below h_q4 N_q6.below
  replace hB := below_new hB hB.size N_q6
  have h_q6 := N_q6.here
  clear N_q6
  intro a3 p3
  have s4 : a3.eval (.tmp 4) = .pointer (some ⟨q6, 0, none⟩) := p3.at hs (by decide)
  replace hs := p3.st hs
  refine q_val rfl rfl ?_
  refine g_assign rfl rfl ?_
  intro a4 p4
  have s5 : a4.eval (.tmp 5) = .bool false := p4.at hs (by decide)
  replace hs := p4.st hs
  refine wpList_nil ?_
  replace s2 : a4.eval (.tmp 2) = .pointer (some ⟨q2, 0, none⟩) := ((p4.ne rfl).trans ((p3.ne rfl).trans (p2.ne rfl))).trans s2
  replace s3 : a4.eval (.tmp 3) = .pointer (some ⟨q4, 0, none⟩) := ((p4.ne rfl).trans (p3.ne rfl)).trans s3
  replace s4 : a4.eval (.tmp 4) = .pointer (some ⟨q6, 0, none⟩) := (p4.ne rfl).trans s4
  refine hK1 _ _ ?_
  clear hK1
  refine wp_seq_k fun K8 hK8 => ?_
  refine wp_seq_k fun K9 hK9 => ?_
  refine wp_region_lit ?_
  refine q_val rfl rfl ?_
  refine g_loadB rfl s2 Try.isAgg28 Try.sizeOf28 rfl h_q2 ?_
  intro a5 p5
  have s7 : a5.eval (.tmp 7) = .agg #[.int .i64 ch, .int .i64 ct, .string ⟨(rest).toArray⟩, .slice B ds.length dp] := p5.at hs (by decide)
  replace hs := p5.st hs
  refine q_val rfl rfl ?_
  refine g_call rfl rfl Try.call31 (arr1 s7) ?_
  refine (packerOk_any _ _ _ _ _ _ ds _ (by unfold Txt; (try simp only [List.length_append]); omega) rfl (by omega) (hr_d.below hB)).mono ?_
  rintro e w11 ⟨rfl, hb10⟩
  refine ⟨_, rfl, ?_⟩
  replace h_q2 := keep_below h_q2 hb10
  replace h_q4 := keep_below h_q4 hb10
  replace h_q6 := keep_below h_q6 hb10
  replace hB := hB.trans (hb10.mono hB.size)
  clear hb10
  intro a6 p6
  have s8 : a6.eval (.tmp 8) = .bool (pkrOk ch ct rest ds) := p6.at hs (by decide)
  replace hs := p6.st hs
  refine q_val rfl rfl ?_
  refine g_not rfl s8 ?_
  intro a7 p7
  have s9 : a7.eval (.tmp 9) = .bool (!(pkrOk ch ct rest ds)) := p7.at hs (by decide)
  replace hs := p7.st hs
  refine q_val rfl rfl ?_
  refine g_move rfl s9 ?_
  intro a8 p8
  have s10 : a8.eval (.tmp 10) = .bool (!(pkrOk ch ct rest ds)) := p8.at hs (by decide)
  replace hs := p8.st hs
  cases h1 : pkrOk ch ct rest ds
  · replace s8 := s8.trans (congrArg Value.bool h1)
    replace s8 : a6.eval (.tmp 8) = .bool false := s8
    replace s9 := s9.trans (congrArg (fun b => Value.bool (!b)) h1)
    replace s9 : a7.eval (.tmp 9) = .bool true := s9
    replace s10 := s10.trans (congrArg (fun b => Value.bool (!b)) h1)
    replace s10 : a8.eval (.tmp 10) = .bool true := s10
    refine q_skip rfl rfl s10 rfl ?_
    intro a9 p9
    have s11 : a9.eval (.tmp 11) = undef := p9.at hs (by decide)
    replace hs := p9.st hs
    refine q_skip rfl rfl ((p9.ne rfl).trans s10) rfl ?_
    intro a10 p10
    have s12 : a10.eval (.tmp 12) = undef := p10.at hs (by decide)
    replace hs := p10.st hs
    refine q_skip rfl rfl (((p10.ne rfl).trans (p9.ne rfl)).trans s10) rfl ?_
    intro a11 p11
    have s13 : a11.eval (.tmp 13) = undef := p11.at hs (by decide)
    replace hs := p11.st hs
    refine q_val rfl rfl ?_
    refine g_pick_t rfl (((p11.ne rfl).trans ((p10.ne rfl).trans (p9.ne rfl))).trans s10) rfl ?_
    intro a12 p12
    have s14 : a12.eval (.tmp 14) = .bool true := p12.at hs (by decide)
    replace hs := p12.st hs
    refine wpList_nil ?_
    replace s2 : a12.eval (.tmp 2) = .pointer (some ⟨q2, 0, none⟩) := ((p12.ne rfl).trans ((p11.ne rfl).trans ((p10.ne rfl).trans ((p9.ne rfl).trans ((p8.ne rfl).trans ((p7.ne rfl).trans ((p6.ne rfl).trans (p5.ne rfl)))))))).trans s2
    replace s3 : a12.eval (.tmp 3) = .pointer (some ⟨q4, 0, none⟩) := ((p12.ne rfl).trans ((p11.ne rfl).trans ((p10.ne rfl).trans ((p9.ne rfl).trans ((p8.ne rfl).trans ((p7.ne rfl).trans ((p6.ne rfl).trans (p5.ne rfl)))))))).trans s3
    replace s4 : a12.eval (.tmp 4) = .pointer (some ⟨q6, 0, none⟩) := ((p12.ne rfl).trans ((p11.ne rfl).trans ((p10.ne rfl).trans ((p9.ne rfl).trans ((p8.ne rfl).trans ((p7.ne rfl).trans ((p6.ne rfl).trans (p5.ne rfl)))))))).trans s4
    replace s5 : a12.eval (.tmp 5) = .bool false := ((p12.ne rfl).trans ((p11.ne rfl).trans ((p10.ne rfl).trans ((p9.ne rfl).trans ((p8.ne rfl).trans ((p7.ne rfl).trans ((p6.ne rfl).trans (p5.ne rfl)))))))).trans s5
    refine hK9 _ _ ?_
    clear hK9
    refine c_true s14 ?_
    refine wp_seq_k fun K12 hK12 => ?_
    refine wp_region_lit ?_
    refine q_val rfl rfl ?_
    refine g_loadB rfl s2 Try.isAgg28 Try.sizeOf28 rfl h_q2 ?_
    intro a13 p13
    have s15 : a13.eval (.tmp 15) = .agg #[.int .i64 ch, .int .i64 ct, .string ⟨(rest).toArray⟩, .slice B ds.length dp] := p13.at hs (by decide)
    replace hs := p13.st hs
    refine q_val rfl rfl ?_
    refine g_call rfl rfl Try.call35 (arr1 s15) ?_
    refine (clonePacker_any _ _ _ _ _ _ ds _ (by unfold Txt; (try simp only [List.length_append]); omega) rfl (by omega) hnn_d (hr_d.below hB)).mono ?_
    rintro e w14 ⟨A13, c13, rfl, o_x13, hb13⟩
    refine ⟨_, rfl, ?_⟩
    have d_x13_q2 := own_ne_box o_x13 (lt_of_block h_q2)
    have d_x13_q4 := own_ne_box o_x13 (lt_of_block h_q4)
    have d_x13_q6 := own_ne_box o_x13 (lt_of_block h_q6)
    have g_x13 : ∀ b, (A13 : Option Addr).map (·.block) = some b → w.heap.size ≤ b := fun b h => Nat.le_trans hB.size (own_row o_x13 b h).1
    replace o_x13 := own_base (base := w.heap.size) o_x13 hB.size
    replace h_q2 := keep_below h_q2 hb13
    replace h_q4 := keep_below h_q4 hb13
    replace h_q6 := keep_below h_q6 hb13
    replace hB := hB.trans (hb13.mono hB.size)
    clear hb13
    intro a14 p14
    have s16 : a14.eval (.tmp 16) = .agg #[.int .i64 ch, .int .i64 ct, .string ⟨(rest).toArray⟩, .slice A13 ds.length c13] := p14.at hs (by decide)
    replace hs := p14.st hs
    refine q_eff rfl rfl ?_
    refine g_storeB rfl (((p14.ne rfl).trans (p13.ne rfl)).trans s4) s16 Try.sizeOf28 rfl rfl h_q6 rfl ?_
    intro w15 W_w15
    replace h_q2 := keep_wrote h_q2 W_w15 n_q6_q2
    replace h_q4 := keep_wrote h_q4 W_w15 n_q6_q4
    replace h_q6 := W_w15.here
    replace o_x13 := own_wrote o_x13 W_w15 d_x13_q6
    replace hB := below_wrote hB hB.size W_w15 g_q6.le
    clear W_w15
    refine q_val rfl rfl ?_
    refine g_assign rfl rfl ?_
    intro a15 p15
    have s5 : a15.eval (.tmp 5) = .bool false := p15.at hs (by decide)
    replace hs := p15.st hs
    refine wpList_nil ?_
    replace s2 : a15.eval (.tmp 2) = .pointer (some ⟨q2, 0, none⟩) := ((p15.ne rfl).trans ((p14.ne rfl).trans (p13.ne rfl))).trans s2
    replace s3 : a15.eval (.tmp 3) = .pointer (some ⟨q4, 0, none⟩) := ((p15.ne rfl).trans ((p14.ne rfl).trans (p13.ne rfl))).trans s3
    replace s4 : a15.eval (.tmp 4) = .pointer (some ⟨q6, 0, none⟩) := ((p15.ne rfl).trans ((p14.ne rfl).trans (p13.ne rfl))).trans s4
    refine hK12 _ _ ?_
    clear hK12
    refine wp_ret ?_
    try dsimp only [Exit.then, Exit.inBlock]
    refine ret2 hs Try.results9 (res_cell s4 h_q6 Try.isAgg28 Try.sizeOf28 rfl) (res_tmp s5) ?_
    refine ⟨_, rfl, ?_, hB⟩
    have e : packR ch ct rest ds x = ((rest, ds), false) := by unfold packR; simp [h1]
    rw [e]
    exact ⟨_, rfl, _, _, _, rfl, rfl, o_x13⟩
  · replace s8 := s8.trans (congrArg Value.bool h1)
    replace s8 : a6.eval (.tmp 8) = .bool true := s8
    replace s9 := s9.trans (congrArg (fun b => Value.bool (!b)) h1)
    replace s9 : a7.eval (.tmp 9) = .bool false := s9
    replace s10 := s10.trans (congrArg (fun b => Value.bool (!b)) h1)
    replace s10 : a8.eval (.tmp 10) = .bool false := s10
    refine q_take rfl rfl s10 rfl ?_
    refine g_loadB rfl (((p8.ne rfl).trans ((p7.ne rfl).trans ((p6.ne rfl).trans (p5.ne rfl)))).trans s3) Try.isAgg32 Try.sizeOf32 rfl h_q4 ?_
    intro a9 p9
    have s11 : a9.eval (.tmp 11) = .agg #[.int .i64 x.f0, .int .i64 x.f1, .string ⟨(x.f2).toArray⟩] := p9.at hs (by decide)
    replace hs := p9.st hs
    refine q_take rfl rfl ((p9.ne rfl).trans s10) rfl ?_
    refine g_call rfl rfl Try.call25 (arr1 s11) ?_
    refine (packetOk_any _ hTx).mono ?_
    rintro e w17 ⟨rfl, hb16⟩
    refine ⟨_, rfl, ?_⟩
    replace h_q2 := keep_below h_q2 hb16
    replace h_q4 := keep_below h_q4 hb16
    replace h_q6 := keep_below h_q6 hb16
    replace hB := hB.trans (hb16.mono hB.size)
    clear hb16
    intro a10 p10
    have s12 : a10.eval (.tmp 12) = .bool (pkOk x) := p10.at hs (by decide)
    replace hs := p10.st hs
    refine q_take rfl rfl (((p10.ne rfl).trans (p9.ne rfl)).trans s10) rfl ?_
    refine g_not rfl s12 ?_
    intro a11 p11
    have s13 : a11.eval (.tmp 13) = .bool (!(pkOk x)) := p11.at hs (by decide)
    replace hs := p11.st hs
    refine q_val rfl rfl ?_
    refine g_pick_f rfl (((p11.ne rfl).trans ((p10.ne rfl).trans (p9.ne rfl))).trans s10) s13 ?_
    intro a12 p12
    have s14 : a12.eval (.tmp 14) = .bool (!(pkOk x)) := p12.at hs (by decide)
    replace hs := p12.st hs
    refine wpList_nil ?_
    replace s2 : a12.eval (.tmp 2) = .pointer (some ⟨q2, 0, none⟩) := ((p12.ne rfl).trans ((p11.ne rfl).trans ((p10.ne rfl).trans ((p9.ne rfl).trans ((p8.ne rfl).trans ((p7.ne rfl).trans ((p6.ne rfl).trans (p5.ne rfl)))))))).trans s2
    replace s3 : a12.eval (.tmp 3) = .pointer (some ⟨q4, 0, none⟩) := ((p12.ne rfl).trans ((p11.ne rfl).trans ((p10.ne rfl).trans ((p9.ne rfl).trans ((p8.ne rfl).trans ((p7.ne rfl).trans ((p6.ne rfl).trans (p5.ne rfl)))))))).trans s3
    replace s4 : a12.eval (.tmp 4) = .pointer (some ⟨q6, 0, none⟩) := ((p12.ne rfl).trans ((p11.ne rfl).trans ((p10.ne rfl).trans ((p9.ne rfl).trans ((p8.ne rfl).trans ((p7.ne rfl).trans ((p6.ne rfl).trans (p5.ne rfl)))))))).trans s4
    replace s5 : a12.eval (.tmp 5) = .bool false := ((p12.ne rfl).trans ((p11.ne rfl).trans ((p10.ne rfl).trans ((p9.ne rfl).trans ((p8.ne rfl).trans ((p7.ne rfl).trans ((p6.ne rfl).trans (p5.ne rfl)))))))).trans s5
    refine hK9 _ _ ?_
    clear hK9
    cases h2 : pkOk x
    · replace s14 := s14.trans (congrArg (fun b => Value.bool (!b)) h2)
      replace s14 : a12.eval (.tmp 14) = .bool true := s14
      refine c_true s14 ?_
      refine wp_seq_k fun K18 hK18 => ?_
      refine wp_region_lit ?_
      refine q_val rfl rfl ?_
      refine g_loadB rfl s2 Try.isAgg28 Try.sizeOf28 rfl h_q2 ?_
      intro a13 p13
      have s15 : a13.eval (.tmp 15) = .agg #[.int .i64 ch, .int .i64 ct, .string ⟨(rest).toArray⟩, .slice B ds.length dp] := p13.at hs (by decide)
      replace hs := p13.st hs
      refine q_val rfl rfl ?_
      refine g_call rfl rfl Try.call35 (arr1 s15) ?_
      refine (clonePacker_any _ _ _ _ _ _ ds _ (by unfold Txt; (try simp only [List.length_append]); omega) rfl (by omega) hnn_d (hr_d.below hB)).mono ?_
      rintro e w20 ⟨A19, c19, rfl, o_x19, hb19⟩
      refine ⟨_, rfl, ?_⟩
      have d_x19_q2 := own_ne_box o_x19 (lt_of_block h_q2)
      have d_x19_q4 := own_ne_box o_x19 (lt_of_block h_q4)
      have d_x19_q6 := own_ne_box o_x19 (lt_of_block h_q6)
      have g_x19 : ∀ b, (A19 : Option Addr).map (·.block) = some b → w.heap.size ≤ b := fun b h => Nat.le_trans hB.size (own_row o_x19 b h).1
      replace o_x19 := own_base (base := w.heap.size) o_x19 hB.size
      replace h_q2 := keep_below h_q2 hb19
      replace h_q4 := keep_below h_q4 hb19
      replace h_q6 := keep_below h_q6 hb19
      replace hB := hB.trans (hb19.mono hB.size)
      clear hb19
      intro a14 p14
      have s16 : a14.eval (.tmp 16) = .agg #[.int .i64 ch, .int .i64 ct, .string ⟨(rest).toArray⟩, .slice A19 ds.length c19] := p14.at hs (by decide)
      replace hs := p14.st hs
      refine q_eff rfl rfl ?_
      refine g_storeB rfl (((p14.ne rfl).trans (p13.ne rfl)).trans s4) s16 Try.sizeOf28 rfl rfl h_q6 rfl ?_
      intro w21 W_w21
      replace h_q2 := keep_wrote h_q2 W_w21 n_q6_q2
      replace h_q4 := keep_wrote h_q4 W_w21 n_q6_q4
      replace h_q6 := W_w21.here
      replace o_x19 := own_wrote o_x19 W_w21 d_x19_q6
      replace hB := below_wrote hB hB.size W_w21 g_q6.le
      clear W_w21
      refine q_val rfl rfl ?_
      refine g_assign rfl rfl ?_
      intro a15 p15
      have s5 : a15.eval (.tmp 5) = .bool false := p15.at hs (by decide)
      replace hs := p15.st hs
      refine wpList_nil ?_
      replace s2 : a15.eval (.tmp 2) = .pointer (some ⟨q2, 0, none⟩) := ((p15.ne rfl).trans ((p14.ne rfl).trans (p13.ne rfl))).trans s2
      replace s3 : a15.eval (.tmp 3) = .pointer (some ⟨q4, 0, none⟩) := ((p15.ne rfl).trans ((p14.ne rfl).trans (p13.ne rfl))).trans s3
      replace s4 : a15.eval (.tmp 4) = .pointer (some ⟨q6, 0, none⟩) := ((p15.ne rfl).trans ((p14.ne rfl).trans (p13.ne rfl))).trans s4
      refine hK18 _ _ ?_
      clear hK18
      refine wp_ret ?_
      try dsimp only [Exit.then, Exit.inBlock]
      refine ret2 hs Try.results9 (res_cell s4 h_q6 Try.isAgg28 Try.sizeOf28 rfl) (res_tmp s5) ?_
      refine ⟨_, rfl, ?_, hB⟩
      have e : packR ch ct rest ds x = ((rest, ds), false) := by unfold packR; simp [h1, h2]
      rw [e]
      exact ⟨_, rfl, _, _, _, rfl, rfl, o_x19⟩
    · replace s14 := s14.trans (congrArg (fun b => Value.bool (!b)) h2)
      replace s14 : a12.eval (.tmp 14) = .bool false := s14
      refine c_false s14 ?_
      refine wp_skip ?_
      refine hK8 _ _ ?_
      clear hK8
      refine wp_seq_k fun K22 hK22 => ?_
      refine wp_region_lit ?_
      refine q_val rfl rfl ?_
      refine g_loadB rfl s2 Try.isAgg28 Try.sizeOf28 rfl h_q2 ?_
      intro a13 p13
      have s17 : a13.eval (.tmp 17) = .agg #[.int .i64 ch, .int .i64 ct, .string ⟨(rest).toArray⟩, .slice B ds.length dp] := p13.at hs (by decide)
      replace hs := p13.st hs
      refine q_val rfl rfl ?_
      refine g_call rfl rfl Try.call35 (arr1 s17) ?_
      refine (clonePacker_any _ _ _ _ _ _ ds _ (by unfold Txt; (try simp only [List.length_append]); omega) rfl (by omega) hnn_d (hr_d.below hB)).mono ?_
      rintro e w24 ⟨A23, c23, rfl, o_x23, hb23⟩
      refine ⟨_, rfl, ?_⟩
      have d_x23_q2 := own_ne_box o_x23 (lt_of_block h_q2)
      have d_x23_q4 := own_ne_box o_x23 (lt_of_block h_q4)
      have d_x23_q6 := own_ne_box o_x23 (lt_of_block h_q6)
      have g_x23 : ∀ b, (A23 : Option Addr).map (·.block) = some b → w.heap.size ≤ b := fun b h => Nat.le_trans hB.size (own_row o_x23 b h).1
      replace o_x23 := own_base (base := w.heap.size) o_x23 hB.size
      replace h_q2 := keep_below h_q2 hb23
      replace h_q4 := keep_below h_q4 hb23
      replace h_q6 := keep_below h_q6 hb23
      replace hB := hB.trans (hb23.mono hB.size)
      clear hb23
      intro a14 p14
      have s18 : a14.eval (.tmp 18) = .agg #[.int .i64 ch, .int .i64 ct, .string ⟨(rest).toArray⟩, .slice A23 ds.length c23] := p14.at hs (by decide)
      replace hs := p14.st hs
      refine q_val rfl rfl ?_
      refine g_alloc rfl Try.zeroValue28 rfl ?_
      intro q25 w26 N_q25
      have n_q2_q25 := N_q25.ne ⟨lt_of_block h_q2⟩
      have n_q25_q2 := n_q2_q25.symm
      have n_q4_q25 := N_q25.ne ⟨lt_of_block h_q4⟩
      have n_q25_q4 := n_q4_q25.symm
      have n_q6_q25 := N_q25.ne ⟨lt_of_block h_q6⟩
      have n_q25_q6 := n_q6_q25.symm
      have d_x23_q25 := own_ne_new o_x23 N_q25
      have g_q25 : GeB w.heap.size q25 := ⟨Nat.le_trans hB.size N_q25.lo⟩
      replace h_q2 := keep_below h_q2 N_q25.below
      replace h_q4 := keep_below h_q4 N_q25.below
      replace h_q6 := keep_below h_q6 N_q25.below
      replace o_x23 := own_below o_x23 N_q25.below
      replace hB := below_new hB hB.size N_q25
      have h_q25 := N_q25.here
      clear N_q25
      intro a15 p15
      have s6 : a15.eval (.tmp 6) = .pointer (some ⟨q25, 0, none⟩) := p15.at hs (by decide)
      replace hs := p15.st hs
      refine q_eff rfl rfl ?_
      refine g_storeB rfl s6 ((p15.ne rfl).trans s18) Try.sizeOf28 rfl rfl h_q25 rfl ?_
      intro w27 W_w27
      replace h_q2 := keep_wrote h_q2 W_w27 n_q25_q2
      replace h_q4 := keep_wrote h_q4 W_w27 n_q25_q4
      replace h_q6 := keep_wrote h_q6 W_w27 n_q25_q6
      replace h_q25 := W_w27.here
      replace o_x23 := own_wrote o_x23 W_w27 d_x23_q25
      replace hB := below_wrote hB hB.size W_w27 g_q25.le
      clear W_w27
      refine wpList_nil ?_
      replace s2 : a15.eval (.tmp 2) = .pointer (some ⟨q2, 0, none⟩) := ((p15.ne rfl).trans ((p14.ne rfl).trans (p13.ne rfl))).trans s2
      replace s3 : a15.eval (.tmp 3) = .pointer (some ⟨q4, 0, none⟩) := ((p15.ne rfl).trans ((p14.ne rfl).trans (p13.ne rfl))).trans s3
      replace s4 : a15.eval (.tmp 4) = .pointer (some ⟨q6, 0, none⟩) := ((p15.ne rfl).trans ((p14.ne rfl).trans (p13.ne rfl))).trans s4
      replace s5 : a15.eval (.tmp 5) = .bool false := ((p15.ne rfl).trans ((p14.ne rfl).trans (p13.ne rfl))).trans s5
      refine hK22 _ _ ?_
      clear hK22
      refine wp_seq_k fun K28 hK28 => ?_
      refine wp_region_lit ?_
      refine q_val rfl rfl ?_
      refine g_field (r := 3) rfl s6 Try.underlying28 rfl (fun w => Try.sizeOf26 w) rfl rfl ?_
      intro a16 p16
      have s19 : a16.eval (.tmp 19) = .pointer (some ⟨q25, 3, none⟩) := p16.at hs (by decide)
      replace hs := p16.st hs
      refine q_val rfl rfl ?_
      refine g_load rfl s19 Try.isAgg26 (box_cell h_q25 rfl) ?_
      intro a17 p17
      have s20 : a17.eval (.tmp 20) = .slice A23 ds.length c23 := p17.at hs (by decide)
      replace hs := p17.st hs
      refine q_val rfl rfl ?_
      refine g_field (r := 2) rfl (((p17.ne rfl).trans (p16.ne rfl)).trans s6) Try.underlying28 rfl (fun w => Try.sizeOf9 w) rfl rfl ?_
      intro a18 p18
      have s21 : a18.eval (.tmp 21) = .pointer (some ⟨q25, 2, none⟩) := p18.at hs (by decide)
      replace hs := p18.st hs
      refine q_val rfl rfl ?_
      refine g_load rfl s21 Try.isAgg9 (box_cell h_q25 rfl) ?_
      intro a19 p19
      have s22 : a19.eval (.tmp 22) = .string ⟨(rest).toArray⟩ := p19.at hs (by decide)
      replace hs := p19.st hs
      refine q_val rfl rfl ?_
      refine g_lenS rfl Try.underlying9 s22 ?_
      intro a20 p20
      have s23 : a20.eval (.tmp 23) = .int .i64 (((rest).length : Nat) : Int) := p20.at hs (by decide)
      replace hs := p20.st hs
      refine q_val rfl rfl ?_
      refine g_bslice1 (cs := #[.int .i64 (((rest).length : Nat) : Int)]) rfl Try.underlying26 Try.sizeOf3 Try.zeroValue3 s23 (by kernel_rfl) rfl (by decide) ?_
      intro q29 w30 N_q29
      have n_q2_q29 := N_q29.ne ⟨lt_of_block h_q2⟩
      have n_q29_q2 := n_q2_q29.symm
      have n_q4_q29 := N_q29.ne ⟨lt_of_block h_q4⟩
      have n_q29_q4 := n_q4_q29.symm
      have n_q6_q29 := N_q29.ne ⟨lt_of_block h_q6⟩
      have n_q29_q6 := n_q6_q29.symm
      have n_q25_q29 := N_q29.ne ⟨lt_of_block h_q25⟩
      have n_q29_q25 := n_q25_q29.symm
      have d_x23_q29 := own_ne_new o_x23 N_q29
      have g_q29 : GeB w.heap.size q29 := ⟨Nat.le_trans hB.size N_q29.lo⟩
      replace h_q2 := keep_below h_q2 N_q29.below
      replace h_q4 := keep_below h_q4 N_q29.below
      replace h_q6 := keep_below h_q6 N_q29.below
      replace h_q25 := keep_below h_q25 N_q29.below
      replace o_x23 := own_below o_x23 N_q29.below
      replace hB := below_new hB hB.size N_q29
      have h_q29 := N_q29.here
      clear N_q29
      intro a21 p21
      have s24 : a21.eval (.tmp 24) = .slice (some ⟨q29, 0, none⟩) 1 1 := p21.at hs (by decide)
      replace hs := p21.st hs
      refine q_val rfl rfl ?_
      refine g_append (n' := ds.length + 1) (ys := (ds ++ [(((rest).length : Nat) : Int)]).flatMap cI) w.heap.size (.int .i64 0) 1 8 rfl (((p21.ne rfl).trans ((p20.ne rfl).trans ((p19.ne rfl).trans (p18.ne rfl)))).trans s20) s24 Try.underlying26 infoI64 rfl (by decide) o_x23 (fun h => by cases h) (rd_box (xs := ([(((rest).length : Nat) : Int)]).flatMap cI) h_q29 rfl rfl) (flatI_one _) (by omega) hB.size (by decide) (by omega) (by first | rfl | simp [List.flatMap_append] | (simp [List.flatMap_append, cI]; done)) ?_
      intro A_r31 c_r31 w32 P_r31
      have d_r31_q2 := P_r31.ne d_x23_q2 (lt_of_block h_q2)
      have d_r31_q4 := P_r31.ne d_x23_q4 (lt_of_block h_q4)
      have d_r31_q6 := P_r31.ne d_x23_q6 (lt_of_block h_q6)
      have d_r31_q25 := P_r31.ne d_x23_q25 (lt_of_block h_q25)
      have d_r31_q29 := P_r31.ne d_x23_q29 (lt_of_block h_q29)
      have g_r31 := P_r31.ge g_x23 hB.size
      replace h_q2 := keep_grown h_q2 P_r31.grown d_x23_q2
      replace h_q4 := keep_grown h_q4 P_r31.grown d_x23_q4
      replace h_q6 := keep_grown h_q6 P_r31.grown d_x23_q6
      replace h_q25 := keep_grown h_q25 P_r31.grown d_x23_q25
      replace h_q29 := keep_grown h_q29 P_r31.grown d_x23_q29
      replace hB := below_grown hB hB.size P_r31.grown g_x23
      have o_r31 := P_r31.own
      clear P_r31
      intro a22 p22
      have s25 : a22.eval (.tmp 25) = .slice A_r31 (ds.length + 1) c_r31 := p22.at hs (by decide)
      replace hs := p22.st hs
      refine q_val rfl rfl ?_
      refine g_field (r := 3) rfl (((p22.ne rfl).trans ((p21.ne rfl).trans ((p20.ne rfl).trans ((p19.ne rfl).trans ((p18.ne rfl).trans ((p17.ne rfl).trans (p16.ne rfl))))))).trans s6) Try.underlying28 rfl (fun w => Try.sizeOf26 w) rfl rfl ?_
      intro a23 p23
      have s26 : a23.eval (.tmp 26) = .pointer (some ⟨q25, 3, none⟩) := p23.at hs (by decide)
      replace hs := p23.st hs
      refine q_eff rfl rfl ?_
      refine g_store (cs' := #[.int .i64 ch, .int .i64 ct, .string ⟨(rest).toArray⟩, .slice A_r31 (ds.length + 1) c_r31]) rfl s26 ((p23.ne rfl).trans s25) Try.sizeOf26 rfl h_q25 (Nat.le_of_ble_eq_true rfl) rfl ?_
      intro w33 W_w33
      replace h_q2 := keep_wrote h_q2 W_w33 n_q25_q2
      replace h_q4 := keep_wrote h_q4 W_w33 n_q25_q4
      replace h_q6 := keep_wrote h_q6 W_w33 n_q25_q6
      replace h_q25 := W_w33.here
      replace h_q29 := keep_wrote h_q29 W_w33 n_q25_q29
      replace o_r31 := own_wrote o_r31 W_w33 d_r31_q25
      replace hB := below_wrote hB hB.size W_w33 g_q25.le
      clear W_w33
      refine wpList_nil ?_
      replace s2 : a23.eval (.tmp 2) = .pointer (some ⟨q2, 0, none⟩) := ((p23.ne rfl).trans ((p22.ne rfl).trans ((p21.ne rfl).trans ((p20.ne rfl).trans ((p19.ne rfl).trans ((p18.ne rfl).trans ((p17.ne rfl).trans (p16.ne rfl)))))))).trans s2
      replace s3 : a23.eval (.tmp 3) = .pointer (some ⟨q4, 0, none⟩) := ((p23.ne rfl).trans ((p22.ne rfl).trans ((p21.ne rfl).trans ((p20.ne rfl).trans ((p19.ne rfl).trans ((p18.ne rfl).trans ((p17.ne rfl).trans (p16.ne rfl)))))))).trans s3
      replace s4 : a23.eval (.tmp 4) = .pointer (some ⟨q6, 0, none⟩) := ((p23.ne rfl).trans ((p22.ne rfl).trans ((p21.ne rfl).trans ((p20.ne rfl).trans ((p19.ne rfl).trans ((p18.ne rfl).trans ((p17.ne rfl).trans (p16.ne rfl)))))))).trans s4
      replace s5 : a23.eval (.tmp 5) = .bool false := ((p23.ne rfl).trans ((p22.ne rfl).trans ((p21.ne rfl).trans ((p20.ne rfl).trans ((p19.ne rfl).trans ((p18.ne rfl).trans ((p17.ne rfl).trans (p16.ne rfl)))))))).trans s5
      replace s6 : a23.eval (.tmp 6) = .pointer (some ⟨q25, 0, none⟩) := ((p23.ne rfl).trans ((p22.ne rfl).trans ((p21.ne rfl).trans ((p20.ne rfl).trans ((p19.ne rfl).trans ((p18.ne rfl).trans ((p17.ne rfl).trans (p16.ne rfl)))))))).trans s6
      refine hK28 _ _ ?_
      clear hK28
      refine wp_seq_k fun K34 hK34 => ?_
      refine wp_drawn (n := 39) [] [6] [] (fun k_ v_ _wx => match k_ with | 0 => v_ = .pointer (some ⟨q25, 2, none⟩) | 1 => v_ = .string ⟨(rest).toArray⟩ | 2 => v_ = .agg #[.int .i64 x.f0, .int .i64 x.f1, .string ⟨(x.f2).toArray⟩] | 3 => v_ = .string ⟨(pkEnc x).toArray⟩ | 4 => v_ = .string ⟨(rest ++ (pkEnc x)).toArray⟩ | 5 => v_ = .pointer (some ⟨q25, 2, none⟩) | _ => True) (by kernel_rfl) (by kernel_rfl) (by kernel_rfl) (by kernel_rfl) hs.size ?_ ?_ ?_
      · intro i v wa wb hb hr
        rcases i with _ | _ | _ | _ | _ | _ | _ | i
        · exact hr
        · exact hr
        · exact hr
        · exact hr
        · exact hr
        · exact hr
        · trivial
        · trivial
      · refine d_step rfl rfl ?_ (d_step rfl rfl ?_ (d_step rfl rfl ?_ (d_step rfl rfl ?_ (d_step rfl rfl ?_ (d_step rfl rfl ?_ (d_chain rfl (d_nil)))))))
        · intro xv_ wx ρ hρ hwx hd K hK
          have e6 : ρ (.tmp 6) = .pointer (some ⟨q25, 0, none⟩) := (hρ.inn 6 rfl).trans s6
          refine g_field (r := 2) rfl e6 Try.underlying28 rfl (fun w => Try.sizeOf9 w) rfl rfl ?_
          exact hK _ _ (Below.refl _ _) rfl
        · intro xv_ wx ρ hρ hwx hd K hK
          obtain r0 : xv_ 0 = .pointer (some ⟨q25, 2, none⟩) := hd 0 rfl
          have e27 : ρ (.tmp 27) = .pointer (some ⟨q25, 2, none⟩) := (hρ.out 0 27 rfl (by rw [hs.size]; decide) rfl).trans r0
          have h_q25 := keep_below h_q25 hwx
          refine g_load rfl e27 Try.isAgg9 (box_cell h_q25 rfl) ?_
          exact hK _ _ (Below.refl _ _) rfl
        · intro xv_ wx ρ hρ hwx hd K hK
          have e3 : ρ (.tmp 3) = .pointer (some ⟨q4, 0, none⟩) := (hρ.inn 3 rfl).trans s3
          have h_q4 := keep_below h_q4 hwx
          refine g_loadB rfl e3 Try.isAgg32 Try.sizeOf32 rfl h_q4 ?_
          exact hK _ _ (Below.refl _ _) rfl
        · intro xv_ wx ρ hρ hwx hd K hK
          obtain r2 : xv_ 2 = .agg #[.int .i64 x.f0, .int .i64 x.f1, .string ⟨(x.f2).toArray⟩] := hd 2 rfl
          have e29 : ρ (.tmp 29) = .agg #[.int .i64 x.f0, .int .i64 x.f1, .string ⟨(x.f2).toArray⟩] := (hρ.out 2 29 rfl (by rw [hs.size]; decide) rfl).trans r2
          refine g_call rfl (hρ.fn _) Try.call23 (arr1 e29) ?_
          refine (encodePacket_any _ hTx).mono ?_
          rintro e wy ⟨rfl, hb35⟩
          exact ⟨_, rfl, hK _ _ hb35 rfl⟩
        · intro xv_ wx ρ hρ hwx hd K hK
          obtain r1 : xv_ 1 = .string ⟨(rest).toArray⟩ := hd 1 rfl
          have e28 : ρ (.tmp 28) = .string ⟨(rest).toArray⟩ := (hρ.out 1 28 rfl (by rw [hs.size]; decide) rfl).trans r1
          obtain r3 : xv_ 3 = .string ⟨(pkEnc x).toArray⟩ := hd 3 rfl
          have e30 : ρ (.tmp 30) = .string ⟨(pkEnc x).toArray⟩ := (hρ.out 3 30 rfl (by rw [hs.size]; decide) rfl).trans r3
          refine g_concat rfl e28 e30 (by (try simp only [List.length_append]); omega) ?_
          exact hK _ _ (Below.refl _ _) rfl
        · intro xv_ wx ρ hρ hwx hd K hK
          have e6 : ρ (.tmp 6) = .pointer (some ⟨q25, 0, none⟩) := (hρ.inn 6 rfl).trans s6
          refine g_field (r := 2) rfl e6 Try.underlying28 rfl (fun w => Try.sizeOf9 w) rfl rfl ?_
          exact hK _ _ (Below.refl _ _) rfl
      · intro x0_ w36 hb_w36 hr0
        obtain r0 : x0_ 0 = .pointer (some ⟨q25, 2, none⟩) := hr0 0 (by decide) rfl rfl
        obtain r1 : x0_ 1 = .string ⟨(rest).toArray⟩ := hr0 1 (by decide) rfl rfl
        obtain r2 : x0_ 2 = .agg #[.int .i64 x.f0, .int .i64 x.f1, .string ⟨(x.f2).toArray⟩] := hr0 2 (by decide) rfl rfl
        obtain r3 : x0_ 3 = .string ⟨(pkEnc x).toArray⟩ := hr0 3 (by decide) rfl rfl
        obtain r4 : x0_ 4 = .string ⟨(rest ++ (pkEnc x)).toArray⟩ := hr0 4 (by decide) rfl rfl
        obtain r5 : x0_ 5 = .pointer (some ⟨q25, 2, none⟩) := hr0 5 (by decide) rfl rfl
        clear hr0
        replace h_q2 := keep_below h_q2 hb_w36
        replace h_q4 := keep_below h_q4 hb_w36
        replace h_q6 := keep_below h_q6 hb_w36
        replace h_q25 := keep_below h_q25 hb_w36
        replace h_q29 := keep_below h_q29 hb_w36
        replace o_r31 := own_below o_r31 hb_w36
        replace hB := hB.trans (hb_w36.mono hB.size)
        clear hb_w36
        intro op_ ho_ xv_ ρ hρ qx_ ql_ qk_
        obtain rfl := Option.some.inj ho_
        clear ho_
        have e32 : ρ (.tmp 32) = .pointer (some ⟨q25, 2, none⟩) := (hρ.out 5 32 rfl (by rw [hs.size]; decide) rfl).trans ((qx_ 5 (by decide) rfl rfl).trans r5)
        have e31 : ρ (.tmp 31) = .string ⟨(rest ++ (pkEnc x)).toArray⟩ := (hρ.out 4 31 rfl (by rw [hs.size]; decide) rfl).trans ((qx_ 4 (by decide) rfl rfl).trans r4)
        refine g_store (cs' := #[.int .i64 ch, .int .i64 ct, .string ⟨(rest ++ (pkEnc x)).toArray⟩, .slice A_r31 (ds.length + 1) c_r31]) rfl e32 e31 Try.sizeOf9 rfl h_q25 (Nat.le_of_ble_eq_true rfl) rfl ?_
        intro w37 W_w37
        replace h_q2 := keep_wrote h_q2 W_w37 n_q25_q2
        replace h_q4 := keep_wrote h_q4 W_w37 n_q25_q4
        replace h_q6 := keep_wrote h_q6 W_w37 n_q25_q6
        replace h_q25 := W_w37.here
        replace h_q29 := keep_wrote h_q29 W_w37 n_q25_q29
        replace o_r31 := own_wrote o_r31 W_w37 d_r31_q25
        replace hB := below_wrote hB hB.size W_w37 g_q25.le
        clear W_w37
        clear e31 e32
        clear hρ qx_ ql_ qk_
        intro xv_ a24 hρ hsz hdf qx_ ql_ qk_ qlk_
        replace s2 : a24.eval (.tmp 2) = .pointer (some ⟨q2, 0, none⟩) := (hρ.inn 2 rfl).trans s2
        replace s4 : a24.eval (.tmp 4) = .pointer (some ⟨q6, 0, none⟩) := (hρ.inn 4 rfl).trans s4
        replace s5 : a24.eval (.tmp 5) = .bool false := (hρ.inn 5 rfl).trans s5
        replace s6 : a24.eval (.tmp 6) = .pointer (some ⟨q25, 0, none⟩) := (hρ.inn 6 rfl).trans s6
        replace hs : St 39 a24 := ⟨hsz.trans hs.size, hdf.trans hs.nodef⟩
        clear hρ hsz hdf qx_ ql_ qk_ qlk_
        refine hK34 _ _ ?_
        clear hK34
        refine wp_seq_k fun K38 hK38 => ?_
        refine wp_seq_k fun K39 hK39 => ?_
        refine wp_region_lit ?_
        refine q_val rfl rfl ?_
        refine g_loadB rfl s6 Try.isAgg28 Try.sizeOf28 rfl h_q25 ?_
        intro a25 p25
        have s33 : a25.eval (.tmp 33) = .agg #[.int .i64 ch, .int .i64 ct, .string ⟨(rest ++ (pkEnc x)).toArray⟩, .slice A_r31 (ds.length + 1) c_r31] := p25.at hs (by decide)
        replace hs := p25.st hs
        refine q_val rfl rfl ?_
        refine g_call rfl rfl Try.call31 (arr1 s33) ?_
        refine (packerOk_any _ _ _ _ _ _ (ds ++ [(((rest).length : Nat) : Int)]) _ (by unfold Txt; (try simp only [List.length_append]); omega) (by simp only [List.length_append, List.length_cons, List.length_nil, List.length_drop, List.length_take] <;> omega) (by omega) (Rd.of_own o_r31)).mono ?_
        rintro e w41 ⟨rfl, hb40⟩
        refine ⟨_, rfl, ?_⟩
        replace h_q2 := keep_below h_q2 hb40
        replace h_q4 := keep_below h_q4 hb40
        replace h_q6 := keep_below h_q6 hb40
        replace h_q25 := keep_below h_q25 hb40
        replace h_q29 := keep_below h_q29 hb40
        replace o_r31 := own_below o_r31 hb40
        replace hB := hB.trans (hb40.mono hB.size)
        clear hb40
        intro a26 p26
        have s34 : a26.eval (.tmp 34) = .bool (pkrOk ch ct (rest ++ (pkEnc x)) (ds ++ [(((rest).length : Nat) : Int)])) := p26.at hs (by decide)
        replace hs := p26.st hs
        refine q_val rfl rfl ?_
        refine g_not rfl s34 ?_
        intro a27 p27
        have s35 : a27.eval (.tmp 35) = .bool (!(pkrOk ch ct (rest ++ (pkEnc x)) (ds ++ [(((rest).length : Nat) : Int)]))) := p27.at hs (by decide)
        replace hs := p27.st hs
        refine wpList_nil ?_
        replace s2 : a27.eval (.tmp 2) = .pointer (some ⟨q2, 0, none⟩) := ((p27.ne rfl).trans ((p26.ne rfl).trans (p25.ne rfl))).trans s2
        replace s4 : a27.eval (.tmp 4) = .pointer (some ⟨q6, 0, none⟩) := ((p27.ne rfl).trans ((p26.ne rfl).trans (p25.ne rfl))).trans s4
        replace s5 : a27.eval (.tmp 5) = .bool false := ((p27.ne rfl).trans ((p26.ne rfl).trans (p25.ne rfl))).trans s5
        replace s6 : a27.eval (.tmp 6) = .pointer (some ⟨q25, 0, none⟩) := ((p27.ne rfl).trans ((p26.ne rfl).trans (p25.ne rfl))).trans s6
        refine hK39 _ _ ?_
        clear hK39
        cases hc42 : pkrOk ch ct (rest ++ (pkEnc x)) (ds ++ [(((rest).length : Nat) : Int)])
        · replace s35 := s35.trans (congrArg (fun b => Value.bool (!b)) hc42)
          replace s35 : a27.eval (.tmp 35) = .bool true := s35
          refine c_true s35 ?_
          refine wp_seq_k fun K43 hK43 => ?_
          refine wp_region_lit ?_
          refine q_val rfl rfl ?_
          refine g_loadB rfl s2 Try.isAgg28 Try.sizeOf28 rfl h_q2 ?_
          intro a28 p28
          have s36 : a28.eval (.tmp 36) = .agg #[.int .i64 ch, .int .i64 ct, .string ⟨(rest).toArray⟩, .slice B ds.length dp] := p28.at hs (by decide)
          replace hs := p28.st hs
          refine q_val rfl rfl ?_
          refine g_call rfl rfl Try.call35 (arr1 s36) ?_
          refine (clonePacker_any _ _ _ _ _ _ ds _ (by unfold Txt; (try simp only [List.length_append]); omega) rfl (by omega) hnn_d (hr_d.below hB)).mono ?_
          rintro e w45 ⟨A44, c44, rfl, o_x44, hb44⟩
          refine ⟨_, rfl, ?_⟩
          have d_x44_q2 := own_ne_box o_x44 (lt_of_block h_q2)
          have d_x44_q4 := own_ne_box o_x44 (lt_of_block h_q4)
          have d_x44_q6 := own_ne_box o_x44 (lt_of_block h_q6)
          have d_x44_q25 := own_ne_box o_x44 (lt_of_block h_q25)
          have d_x44_q29 := own_ne_box o_x44 (lt_of_block h_q29)
          have m_r31_x44 := own_ne_row o_r31 o_x44 (Nat.le_refl _)
          have m_x44_r31 := ne_row_symm m_r31_x44
          have g_x44 : ∀ b, (A44 : Option Addr).map (·.block) = some b → w.heap.size ≤ b := fun b h => Nat.le_trans hB.size (own_row o_x44 b h).1
          replace o_x44 := own_base (base := w.heap.size) o_x44 hB.size
          replace h_q2 := keep_below h_q2 hb44
          replace h_q4 := keep_below h_q4 hb44
          replace h_q6 := keep_below h_q6 hb44
          replace h_q25 := keep_below h_q25 hb44
          replace h_q29 := keep_below h_q29 hb44
          replace o_r31 := own_below o_r31 hb44
          replace hB := hB.trans (hb44.mono hB.size)
          clear hb44
          intro a29 p29
          have s37 : a29.eval (.tmp 37) = .agg #[.int .i64 ch, .int .i64 ct, .string ⟨(rest).toArray⟩, .slice A44 ds.length c44] := p29.at hs (by decide)
          replace hs := p29.st hs
          refine q_eff rfl rfl ?_
          refine g_storeB rfl (((p29.ne rfl).trans (p28.ne rfl)).trans s4) s37 Try.sizeOf28 rfl rfl h_q6 rfl ?_
          intro w46 W_w46
          replace h_q2 := keep_wrote h_q2 W_w46 n_q6_q2
          replace h_q4 := keep_wrote h_q4 W_w46 n_q6_q4
          replace h_q6 := W_w46.here
          replace h_q25 := keep_wrote h_q25 W_w46 n_q6_q25
          replace h_q29 := keep_wrote h_q29 W_w46 n_q6_q29
          replace o_r31 := own_wrote o_r31 W_w46 d_r31_q6
          replace o_x44 := own_wrote o_x44 W_w46 d_x44_q6
          replace hB := below_wrote hB hB.size W_w46 g_q6.le
          clear W_w46
          refine q_val rfl rfl ?_
          refine g_assign rfl rfl ?_
          intro a30 p30
          have s5 : a30.eval (.tmp 5) = .bool false := p30.at hs (by decide)
          replace hs := p30.st hs
          refine wpList_nil ?_
          replace s4 : a30.eval (.tmp 4) = .pointer (some ⟨q6, 0, none⟩) := ((p30.ne rfl).trans ((p29.ne rfl).trans (p28.ne rfl))).trans s4
          replace s6 : a30.eval (.tmp 6) = .pointer (some ⟨q25, 0, none⟩) := ((p30.ne rfl).trans ((p29.ne rfl).trans (p28.ne rfl))).trans s6
          refine hK43 _ _ ?_
          clear hK43
          refine wp_ret ?_
          try dsimp only [Exit.then, Exit.inBlock]
          refine ret2 hs Try.results9 (res_cell s4 h_q6 Try.isAgg28 Try.sizeOf28 rfl) (res_tmp s5) ?_
          refine ⟨_, rfl, ?_, hB⟩
          have e : packR ch ct rest ds x = ((rest, ds), false) := by unfold packR; simp [h1, h2, hc42]
          rw [e]
          exact ⟨_, rfl, _, _, _, rfl, rfl, o_x44⟩
        · replace s35 := s35.trans (congrArg (fun b => Value.bool (!b)) hc42)
          replace s35 : a27.eval (.tmp 35) = .bool false := s35
          refine c_false s35 ?_
          refine wp_skip ?_
          refine hK38 _ _ ?_
          clear hK38
          refine wp_seq_k fun K47 hK47 => ?_
          refine wp_region_lit ?_
          refine q_val rfl rfl ?_
          refine g_loadB rfl s6 Try.isAgg28 Try.sizeOf28 rfl h_q25 ?_
          intro a28 p28
          have s38 : a28.eval (.tmp 38) = .agg #[.int .i64 ch, .int .i64 ct, .string ⟨(rest ++ (pkEnc x)).toArray⟩, .slice A_r31 (ds.length + 1) c_r31] := p28.at hs (by decide)
          replace hs := p28.st hs
          refine q_eff rfl rfl ?_
          refine g_storeB rfl ((p28.ne rfl).trans s4) s38 Try.sizeOf28 rfl rfl h_q6 rfl ?_
          intro w48 W_w48
          replace h_q2 := keep_wrote h_q2 W_w48 n_q6_q2
          replace h_q4 := keep_wrote h_q4 W_w48 n_q6_q4
          replace h_q6 := W_w48.here
          replace h_q25 := keep_wrote h_q25 W_w48 n_q6_q25
          replace h_q29 := keep_wrote h_q29 W_w48 n_q6_q29
          replace o_r31 := own_wrote o_r31 W_w48 d_r31_q6
          replace hB := below_wrote hB hB.size W_w48 g_q6.le
          clear W_w48
          refine q_val rfl rfl ?_
          refine g_assign rfl rfl ?_
          intro a29 p29
          have s5 : a29.eval (.tmp 5) = .bool true := p29.at hs (by decide)
          replace hs := p29.st hs
          refine wpList_nil ?_
          replace s4 : a29.eval (.tmp 4) = .pointer (some ⟨q6, 0, none⟩) := ((p29.ne rfl).trans (p28.ne rfl)).trans s4
          refine hK47 _ _ ?_
          clear hK47
          refine wp_ret ?_
          try dsimp only [Exit.then, Exit.inBlock]
          refine ret2 hs Try.results9 (res_cell s4 h_q6 Try.isAgg28 Try.sizeOf28 rfl) (res_tmp s5) ?_
          refine ⟨_, rfl, ?_, hB⟩
          have e : packR ch ct rest ds x = ((rest ++ (pkEnc x), ds ++ [(((rest).length : Nat) : Int)]), true) := by unfold packR; simp [h1, h2, hc42]
          rw [e]
          exact ⟨_, rfl, _, _, _, rfl, (by simp only [List.length_append, List.length_cons, List.length_nil, List.length_drop, List.length_take] <;> omega), o_r31⟩
set_option maxRecDepth 100000 in
set_option maxHeartbeats 4000000 in
theorem sPackPacket_any (ch ct : Int) (rest : List UInt8) (B : Option Addr) (m dp : Nat) (ds : List Int) (x : EPacket) (w : World) (hx : rest.length ≤ 1048576) (hm : ds.length = m) (hbm : m ≤ 1048576) (hnn_d : B = none → m = 0 ∧ dp = 0) (hr_d : Rd w 1 B m (ds.flatMap cI)) (hTx : Txt x.f2) :
    Calls Try.prog 42 #[.agg #[.int .i64 ch, .int .i64 ct, .string ⟨rest.toArray⟩, .slice B m dp], .agg #[.int .i64 x.f0, .int .i64 x.f1, .string ⟨(x.f2).toArray⟩]] w fun e w' => ∃ v, e = .returned v ∧ (∃ p, v = .tuple #[p, .bool (packR ch ct rest ds x).2] ∧ PRes w.heap.size w' ch ct (packR ch ct rest ds x).1 p) ∧ Below w.heap.size w w' := by
  subst hm
  refine enter 38 Try.func42 rfl rfl (Nat.le_of_ble_eq_true rfl) ?_
  intro a0 hs hargs
  have s0 : a0.eval (.tmp 0) = .agg #[.int .i64 ch, .int .i64 ct, .string ⟨(rest).toArray⟩, .slice B ds.length dp] := hargs 0 _ rfl
  have s1 : a0.eval (.tmp 1) = .agg #[.int .i64 x.f0, .int .i64 x.f1, .string ⟨(x.f2).toArray⟩] := hargs 1 _ rfl
  clear hargs
  have hB : Below w.heap.size w w := Below.refl _ _
  have hel := pkEnc_len x
  refine wp_seq_k fun K1 hK1 => ?_
  refine wp_region_lit ?_
  refine q_val rfl rfl ?_
  refine g_box rfl s0 rfl ?_
  intro q2 w3 N_q2
  have g_q2 : GeB w.heap.size q2 := ⟨Nat.le_trans hB.size N_q2.lo⟩
  replace hB := below_new hB hB.size N_q2
  have h_q2 := N_q2.here
  clear N_q2
  intro a1 p1
  have s2 : a1.eval (.tmp 2) = .pointer (some ⟨q2, 0, none⟩) := p1.at hs (by decide)
  replace hs := p1.st hs
  refine q_val rfl rfl ?_
  refine g_box rfl ((p1.ne rfl).trans s1) rfl ?_
  intro q4 w5 N_q4
  have n_q2_q4 := N_q4.ne ⟨lt_of_block h_q2⟩
  have n_q4_q2 := n_q2_q4.symm
  have g_q4 : GeB w.heap.size q4 := ⟨Nat.le_trans hB.size N_q4.lo⟩
  replace h_q2 := keep_below h_q2 N_q4.below
  replace hB := below_new hB hB.size N_q4
  have h_q4 := N_q4.here
  clear N_q4
  intro a2 p2
  have s3 : a2.eval (.tmp 3) = .pointer (some ⟨q4, 0, none⟩) := p2.at hs (by decide)
  replace hs := p2.st hs
  refine q_val rfl rfl ?_
  refine g_alloc rfl Try.zeroValue28 rfl ?_
  intro q6 w7 N_q6
  have n_q2_q6 := N_q6.ne ⟨lt_of_block h_q2⟩
  have n_q6_q2 := n_q2_q6.symm
  have n_q4_q6 := N_q6.ne ⟨lt_of_block h_q4⟩
  have n_q6_q4 := n_q4_q6.symm
  have g_q6 : GeB w.heap.size q6 := ⟨Nat.le_trans hB.size N_q6.lo⟩
  replace h_q2 := keep_below h_q2 N_q6.below
  replace h_q4 := keep_below h_q4 N_q6.below
  replace hB := below_new hB hB.size N_q6
  have h_q6 := N_q6.here
  clear N_q6
  intro a3 p3
  have s4 : a3.eval (.tmp 4) = .pointer (some ⟨q6, 0, none⟩) := p3.at hs (by decide)
  replace hs := p3.st hs
  refine q_val rfl rfl ?_
  refine g_assign rfl rfl ?_
  intro a4 p4
  have s5 : a4.eval (.tmp 5) = .bool false := p4.at hs (by decide)
  replace hs := p4.st hs
  refine wpList_nil ?_
  replace s2 : a4.eval (.tmp 2) = .pointer (some ⟨q2, 0, none⟩) := ((p4.ne rfl).trans ((p3.ne rfl).trans (p2.ne rfl))).trans s2
  replace s3 : a4.eval (.tmp 3) = .pointer (some ⟨q4, 0, none⟩) := ((p4.ne rfl).trans (p3.ne rfl)).trans s3
  replace s4 : a4.eval (.tmp 4) = .pointer (some ⟨q6, 0, none⟩) := (p4.ne rfl).trans s4
  refine hK1 _ _ ?_
  clear hK1
  refine wp_seq_k fun K8 hK8 => ?_
  refine wp_region_lit ?_
  refine q_val rfl rfl ?_
  refine g_loadB rfl s2 Try.isAgg28 Try.sizeOf28 rfl h_q2 ?_
  intro a5 p5
  have s7 : a5.eval (.tmp 7) = .agg #[.int .i64 ch, .int .i64 ct, .string ⟨(rest).toArray⟩, .slice B ds.length dp] := p5.at hs (by decide)
  replace hs := p5.st hs
  refine q_val rfl rfl ?_
  refine g_call rfl rfl Try.call41 (arr1 s7) ?_
  refine (l03Copy_any _ _ _ _ _ _ ds _ (by unfold Txt; (try simp only [List.length_append]); omega) rfl (by omega) hnn_d (hr_d.below hB)).mono ?_
  rintro e w10 ⟨A9, c9, rfl, o_x9, hb9⟩
  refine ⟨_, rfl, ?_⟩
  have d_x9_q2 := own_ne_box o_x9 (lt_of_block h_q2)
  have d_x9_q4 := own_ne_box o_x9 (lt_of_block h_q4)
  have d_x9_q6 := own_ne_box o_x9 (lt_of_block h_q6)
  have g_x9 : ∀ b, (A9 : Option Addr).map (·.block) = some b → w.heap.size ≤ b := fun b h => Nat.le_trans hB.size (own_row o_x9 b h).1
  replace o_x9 := own_base (base := w.heap.size) o_x9 hB.size
  replace h_q2 := keep_below h_q2 hb9
  replace h_q4 := keep_below h_q4 hb9
  replace h_q6 := keep_below h_q6 hb9
  replace hB := hB.trans (hb9.mono hB.size)
  clear hb9
  intro a6 p6
  have s8 : a6.eval (.tmp 8) = .agg #[.int .i64 ch, .int .i64 ct, .string ⟨(rest).toArray⟩, .slice A9 ds.length c9] := p6.at hs (by decide)
  replace hs := p6.st hs
  refine q_val rfl rfl ?_
  refine g_alloc rfl Try.zeroValue28 rfl ?_
  intro q11 w12 N_q11
  have n_q2_q11 := N_q11.ne ⟨lt_of_block h_q2⟩
  have n_q11_q2 := n_q2_q11.symm
  have n_q4_q11 := N_q11.ne ⟨lt_of_block h_q4⟩
  have n_q11_q4 := n_q4_q11.symm
  have n_q6_q11 := N_q11.ne ⟨lt_of_block h_q6⟩
  have n_q11_q6 := n_q6_q11.symm
  have d_x9_q11 := own_ne_new o_x9 N_q11
  have g_q11 : GeB w.heap.size q11 := ⟨Nat.le_trans hB.size N_q11.lo⟩
  replace h_q2 := keep_below h_q2 N_q11.below
  replace h_q4 := keep_below h_q4 N_q11.below
  replace h_q6 := keep_below h_q6 N_q11.below
  replace o_x9 := own_below o_x9 N_q11.below
  replace hB := below_new hB hB.size N_q11
  have h_q11 := N_q11.here
  clear N_q11
  intro a7 p7
  have s6 : a7.eval (.tmp 6) = .pointer (some ⟨q11, 0, none⟩) := p7.at hs (by decide)
  replace hs := p7.st hs
  refine q_eff rfl rfl ?_
  refine g_storeB rfl s6 ((p7.ne rfl).trans s8) Try.sizeOf28 rfl rfl h_q11 rfl ?_
  intro w13 W_w13
  replace h_q2 := keep_wrote h_q2 W_w13 n_q11_q2
  replace h_q4 := keep_wrote h_q4 W_w13 n_q11_q4
  replace h_q6 := keep_wrote h_q6 W_w13 n_q11_q6
  replace h_q11 := W_w13.here
  replace o_x9 := own_wrote o_x9 W_w13 d_x9_q11
  replace hB := below_wrote hB hB.size W_w13 g_q11.le
  clear W_w13
  refine wpList_nil ?_
  replace s2 : a7.eval (.tmp 2) = .pointer (some ⟨q2, 0, none⟩) := ((p7.ne rfl).trans ((p6.ne rfl).trans (p5.ne rfl))).trans s2
  replace s3 : a7.eval (.tmp 3) = .pointer (some ⟨q4, 0, none⟩) := ((p7.ne rfl).trans ((p6.ne rfl).trans (p5.ne rfl))).trans s3
  replace s4 : a7.eval (.tmp 4) = .pointer (some ⟨q6, 0, none⟩) := ((p7.ne rfl).trans ((p6.ne rfl).trans (p5.ne rfl))).trans s4
  replace s5 : a7.eval (.tmp 5) = .bool false := ((p7.ne rfl).trans ((p6.ne rfl).trans (p5.ne rfl))).trans s5
  refine hK8 _ _ ?_
  clear hK8
  refine wp_seq_k fun K14 hK14 => ?_
  refine wp_seq_k fun K15 hK15 => ?_
  refine wp_region_lit ?_
  refine q_val rfl rfl ?_
  refine g_loadB rfl s2 Try.isAgg28 Try.sizeOf28 rfl h_q2 ?_
  intro a8 p8
  have s9 : a8.eval (.tmp 9) = .agg #[.int .i64 ch, .int .i64 ct, .string ⟨(rest).toArray⟩, .slice B ds.length dp] := p8.at hs (by decide)
  replace hs := p8.st hs
  refine q_val rfl rfl ?_
  refine g_call rfl rfl Try.call40 (arr1 s9) ?_
  refine (sPackerOk_any _ _ _ _ _ _ ds _ (by unfold Txt; (try simp only [List.length_append]); omega) rfl (by omega) (hr_d.below hB)).mono ?_
  rintro e w17 ⟨rfl, hb16⟩
  refine ⟨_, rfl, ?_⟩
  replace h_q2 := keep_below h_q2 hb16
  replace h_q4 := keep_below h_q4 hb16
  replace h_q6 := keep_below h_q6 hb16
  replace h_q11 := keep_below h_q11 hb16
  replace o_x9 := own_below o_x9 hb16
  replace hB := hB.trans (hb16.mono hB.size)
  clear hb16
  intro a9 p9
  have s10 : a9.eval (.tmp 10) = .bool (pkrOk ch ct rest ds) := p9.at hs (by decide)
  replace hs := p9.st hs
  refine q_val rfl rfl ?_
  refine g_not rfl s10 ?_
  intro a10 p10
  have s11 : a10.eval (.tmp 11) = .bool (!(pkrOk ch ct rest ds)) := p10.at hs (by decide)
  replace hs := p10.st hs
  refine q_val rfl rfl ?_
  refine g_move rfl s11 ?_
  intro a11 p11
  have s12 : a11.eval (.tmp 12) = .bool (!(pkrOk ch ct rest ds)) := p11.at hs (by decide)
  replace hs := p11.st hs
  cases h1 : pkrOk ch ct rest ds
  · replace s10 := s10.trans (congrArg Value.bool h1)
    replace s10 : a9.eval (.tmp 10) = .bool false := s10
    replace s11 := s11.trans (congrArg (fun b => Value.bool (!b)) h1)
    replace s11 : a10.eval (.tmp 11) = .bool true := s11
    replace s12 := s12.trans (congrArg (fun b => Value.bool (!b)) h1)
    replace s12 : a11.eval (.tmp 12) = .bool true := s12
    refine q_skip rfl rfl s12 rfl ?_
    intro a12 p12
    have s13 : a12.eval (.tmp 13) = undef := p12.at hs (by decide)
    replace hs := p12.st hs
    refine q_skip rfl rfl ((p12.ne rfl).trans s12) rfl ?_
    intro a13 p13
    have s14 : a13.eval (.tmp 14) = undef := p13.at hs (by decide)
    replace hs := p13.st hs
    refine q_skip rfl rfl (((p13.ne rfl).trans (p12.ne rfl)).trans s12) rfl ?_
    intro a14 p14
    have s15 : a14.eval (.tmp 15) = undef := p14.at hs (by decide)
    replace hs := p14.st hs
    refine q_val rfl rfl ?_
    refine g_pick_t rfl (((p14.ne rfl).trans ((p13.ne rfl).trans (p12.ne rfl))).trans s12) rfl ?_
    intro a15 p15
    have s16 : a15.eval (.tmp 16) = .bool true := p15.at hs (by decide)
    replace hs := p15.st hs
    refine wpList_nil ?_
    replace s2 : a15.eval (.tmp 2) = .pointer (some ⟨q2, 0, none⟩) := ((p15.ne rfl).trans ((p14.ne rfl).trans ((p13.ne rfl).trans ((p12.ne rfl).trans ((p11.ne rfl).trans ((p10.ne rfl).trans ((p9.ne rfl).trans (p8.ne rfl)))))))).trans s2
    replace s3 : a15.eval (.tmp 3) = .pointer (some ⟨q4, 0, none⟩) := ((p15.ne rfl).trans ((p14.ne rfl).trans ((p13.ne rfl).trans ((p12.ne rfl).trans ((p11.ne rfl).trans ((p10.ne rfl).trans ((p9.ne rfl).trans (p8.ne rfl)))))))).trans s3
    replace s4 : a15.eval (.tmp 4) = .pointer (some ⟨q6, 0, none⟩) := ((p15.ne rfl).trans ((p14.ne rfl).trans ((p13.ne rfl).trans ((p12.ne rfl).trans ((p11.ne rfl).trans ((p10.ne rfl).trans ((p9.ne rfl).trans (p8.ne rfl)))))))).trans s4
    replace s5 : a15.eval (.tmp 5) = .bool false := ((p15.ne rfl).trans ((p14.ne rfl).trans ((p13.ne rfl).trans ((p12.ne rfl).trans ((p11.ne rfl).trans ((p10.ne rfl).trans ((p9.ne rfl).trans (p8.ne rfl)))))))).trans s5
    replace s6 : a15.eval (.tmp 6) = .pointer (some ⟨q11, 0, none⟩) := ((p15.ne rfl).trans ((p14.ne rfl).trans ((p13.ne rfl).trans ((p12.ne rfl).trans ((p11.ne rfl).trans ((p10.ne rfl).trans ((p9.ne rfl).trans (p8.ne rfl)))))))).trans s6
    refine hK15 _ _ ?_
    clear hK15
    refine c_true s16 ?_
    refine wp_seq_k fun K18 hK18 => ?_
    refine wp_region_lit ?_
    refine q_val rfl rfl ?_
    refine g_loadB rfl s6 Try.isAgg28 Try.sizeOf28 rfl h_q11 ?_
    intro a16 p16
    have s17 : a16.eval (.tmp 17) = .agg #[.int .i64 ch, .int .i64 ct, .string ⟨(rest).toArray⟩, .slice A9 ds.length c9] := p16.at hs (by decide)
    replace hs := p16.st hs
    refine q_eff rfl rfl ?_
    refine g_storeB rfl ((p16.ne rfl).trans s4) s17 Try.sizeOf28 rfl rfl h_q6 rfl ?_
    intro w19 W_w19
    replace h_q2 := keep_wrote h_q2 W_w19 n_q6_q2
    replace h_q4 := keep_wrote h_q4 W_w19 n_q6_q4
    replace h_q6 := W_w19.here
    replace h_q11 := keep_wrote h_q11 W_w19 n_q6_q11
    replace o_x9 := own_wrote o_x9 W_w19 d_x9_q6
    replace hB := below_wrote hB hB.size W_w19 g_q6.le
    clear W_w19
    refine q_val rfl rfl ?_
    refine g_assign rfl rfl ?_
    intro a17 p17
    have s5 : a17.eval (.tmp 5) = .bool false := p17.at hs (by decide)
    replace hs := p17.st hs
    refine wpList_nil ?_
    replace s2 : a17.eval (.tmp 2) = .pointer (some ⟨q2, 0, none⟩) := ((p17.ne rfl).trans (p16.ne rfl)).trans s2
    replace s3 : a17.eval (.tmp 3) = .pointer (some ⟨q4, 0, none⟩) := ((p17.ne rfl).trans (p16.ne rfl)).trans s3
    replace s4 : a17.eval (.tmp 4) = .pointer (some ⟨q6, 0, none⟩) := ((p17.ne rfl).trans (p16.ne rfl)).trans s4
    replace s6 : a17.eval (.tmp 6) = .pointer (some ⟨q11, 0, none⟩) := ((p17.ne rfl).trans (p16.ne rfl)).trans s6
    refine hK18 _ _ ?_
    clear hK18
    refine wp_ret ?_
    try dsimp only [Exit.then, Exit.inBlock]
    refine ret2 hs Try.results42 (res_cell s4 h_q6 Try.isAgg28 Try.sizeOf28 rfl) (res_tmp s5) ?_
    refine ⟨_, rfl, ?_, hB⟩
    have e : packR ch ct rest ds x = ((rest, ds), false) := by unfold packR; simp [h1]
    rw [e]
    exact ⟨_, rfl, _, _, _, rfl, rfl, o_x9⟩
  · replace s10 := s10.trans (congrArg Value.bool h1)
    replace s10 : a9.eval (.tmp 10) = .bool true := s10
    replace s11 := s11.trans (congrArg (fun b => Value.bool (!b)) h1)
    replace s11 : a10.eval (.tmp 11) = .bool false := s11
    replace s12 := s12.trans (congrArg (fun b => Value.bool (!b)) h1)
    replace s12 : a11.eval (.tmp 12) = .bool false := s12
    refine q_take rfl rfl s12 rfl ?_
    refine g_loadB rfl (((p11.ne rfl).trans ((p10.ne rfl).trans ((p9.ne rfl).trans (p8.ne rfl)))).trans s3) Try.isAgg32 Try.sizeOf32 rfl h_q4 ?_
    intro a12 p12
    have s13 : a12.eval (.tmp 13) = .agg #[.int .i64 x.f0, .int .i64 x.f1, .string ⟨(x.f2).toArray⟩] := p12.at hs (by decide)
    replace hs := p12.st hs
    refine q_take rfl rfl ((p12.ne rfl).trans s12) rfl ?_
    refine g_call rfl rfl Try.call63 (arr1 s13) ?_
    refine (sPacketOk_any _ hTx).mono ?_
    rintro e w21 ⟨rfl, hb20⟩
    refine ⟨_, rfl, ?_⟩
    replace h_q2 := keep_below h_q2 hb20
    replace h_q4 := keep_below h_q4 hb20
    replace h_q6 := keep_below h_q6 hb20
    replace h_q11 := keep_below h_q11 hb20
    replace o_x9 := own_below o_x9 hb20
    replace hB := hB.trans (hb20.mono hB.size)
    clear hb20
    intro a13 p13
    have s14 : a13.eval (.tmp 14) = .bool (pkOk x) := p13.at hs (by decide)
    replace hs := p13.st hs
    refine q_take rfl rfl (((p13.ne rfl).trans (p12.ne rfl)).trans s12) rfl ?_
    refine g_not rfl s14 ?_
    intro a14 p14
    have s15 : a14.eval (.tmp 15) = .bool (!(pkOk x)) := p14.at hs (by decide)
    replace hs := p14.st hs
    refine q_val rfl rfl ?_
    refine g_pick_f rfl (((p14.ne rfl).trans ((p13.ne rfl).trans (p12.ne rfl))).trans s12) s15 ?_
    intro a15 p15
    have s16 : a15.eval (.tmp 16) = .bool (!(pkOk x)) := p15.at hs (by decide)
    replace hs := p15.st hs
    refine wpList_nil ?_
    replace s2 : a15.eval (.tmp 2) = .pointer (some ⟨q2, 0, none⟩) := ((p15.ne rfl).trans ((p14.ne rfl).trans ((p13.ne rfl).trans ((p12.ne rfl).trans ((p11.ne rfl).trans ((p10.ne rfl).trans ((p9.ne rfl).trans (p8.ne rfl)))))))).trans s2
    replace s3 : a15.eval (.tmp 3) = .pointer (some ⟨q4, 0, none⟩) := ((p15.ne rfl).trans ((p14.ne rfl).trans ((p13.ne rfl).trans ((p12.ne rfl).trans ((p11.ne rfl).trans ((p10.ne rfl).trans ((p9.ne rfl).trans (p8.ne rfl)))))))).trans s3
    replace s4 : a15.eval (.tmp 4) = .pointer (some ⟨q6, 0, none⟩) := ((p15.ne rfl).trans ((p14.ne rfl).trans ((p13.ne rfl).trans ((p12.ne rfl).trans ((p11.ne rfl).trans ((p10.ne rfl).trans ((p9.ne rfl).trans (p8.ne rfl)))))))).trans s4
    replace s5 : a15.eval (.tmp 5) = .bool false := ((p15.ne rfl).trans ((p14.ne rfl).trans ((p13.ne rfl).trans ((p12.ne rfl).trans ((p11.ne rfl).trans ((p10.ne rfl).trans ((p9.ne rfl).trans (p8.ne rfl)))))))).trans s5
    replace s6 : a15.eval (.tmp 6) = .pointer (some ⟨q11, 0, none⟩) := ((p15.ne rfl).trans ((p14.ne rfl).trans ((p13.ne rfl).trans ((p12.ne rfl).trans ((p11.ne rfl).trans ((p10.ne rfl).trans ((p9.ne rfl).trans (p8.ne rfl)))))))).trans s6
    refine hK15 _ _ ?_
    clear hK15
    cases h2 : pkOk x
    · replace s16 := s16.trans (congrArg (fun b => Value.bool (!b)) h2)
      replace s16 : a15.eval (.tmp 16) = .bool true := s16
      refine c_true s16 ?_
      refine wp_seq_k fun K22 hK22 => ?_
      refine wp_region_lit ?_
      refine q_val rfl rfl ?_
      refine g_loadB rfl s6 Try.isAgg28 Try.sizeOf28 rfl h_q11 ?_
      intro a16 p16
      have s17 : a16.eval (.tmp 17) = .agg #[.int .i64 ch, .int .i64 ct, .string ⟨(rest).toArray⟩, .slice A9 ds.length c9] := p16.at hs (by decide)
      replace hs := p16.st hs
      refine q_eff rfl rfl ?_
      refine g_storeB rfl ((p16.ne rfl).trans s4) s17 Try.sizeOf28 rfl rfl h_q6 rfl ?_
      intro w23 W_w23
      replace h_q2 := keep_wrote h_q2 W_w23 n_q6_q2
      replace h_q4 := keep_wrote h_q4 W_w23 n_q6_q4
      replace h_q6 := W_w23.here
      replace h_q11 := keep_wrote h_q11 W_w23 n_q6_q11
      replace o_x9 := own_wrote o_x9 W_w23 d_x9_q6
      replace hB := below_wrote hB hB.size W_w23 g_q6.le
      clear W_w23
      refine q_val rfl rfl ?_
      refine g_assign rfl rfl ?_
      intro a17 p17
      have s5 : a17.eval (.tmp 5) = .bool false := p17.at hs (by decide)
      replace hs := p17.st hs
      refine wpList_nil ?_
      replace s2 : a17.eval (.tmp 2) = .pointer (some ⟨q2, 0, none⟩) := ((p17.ne rfl).trans (p16.ne rfl)).trans s2
      replace s3 : a17.eval (.tmp 3) = .pointer (some ⟨q4, 0, none⟩) := ((p17.ne rfl).trans (p16.ne rfl)).trans s3
      replace s4 : a17.eval (.tmp 4) = .pointer (some ⟨q6, 0, none⟩) := ((p17.ne rfl).trans (p16.ne rfl)).trans s4
      replace s6 : a17.eval (.tmp 6) = .pointer (some ⟨q11, 0, none⟩) := ((p17.ne rfl).trans (p16.ne rfl)).trans s6
      refine hK22 _ _ ?_
      clear hK22
      refine wp_ret ?_
      try dsimp only [Exit.then, Exit.inBlock]
      refine ret2 hs Try.results42 (res_cell s4 h_q6 Try.isAgg28 Try.sizeOf28 rfl) (res_tmp s5) ?_
      refine ⟨_, rfl, ?_, hB⟩
      have e : packR ch ct rest ds x = ((rest, ds), false) := by unfold packR; simp [h1, h2]
      rw [e]
      exact ⟨_, rfl, _, _, _, rfl, rfl, o_x9⟩
    · replace s16 := s16.trans (congrArg (fun b => Value.bool (!b)) h2)
      replace s16 : a15.eval (.tmp 16) = .bool false := s16
      refine c_false s16 ?_
      refine wp_skip ?_
      refine hK14 _ _ ?_
      clear hK14
      refine wp_seq_k fun K24 hK24 => ?_
      refine wp_region_lit ?_
      refine q_val rfl rfl ?_
      refine g_field (r := 3) rfl s6 Try.underlying28 rfl (fun w => Try.sizeOf26 w) rfl rfl ?_
      intro a16 p16
      have s18 : a16.eval (.tmp 18) = .pointer (some ⟨q11, 3, none⟩) := p16.at hs (by decide)
      replace hs := p16.st hs
      refine q_val rfl rfl ?_
      refine g_load rfl s18 Try.isAgg26 (box_cell h_q11 rfl) ?_
      intro a17 p17
      have s19 : a17.eval (.tmp 19) = .slice A9 ds.length c9 := p17.at hs (by decide)
      replace hs := p17.st hs
      refine q_val rfl rfl ?_
      refine g_field (r := 2) rfl (((p17.ne rfl).trans (p16.ne rfl)).trans s2) Try.underlying28 rfl (fun w => Try.sizeOf9 w) rfl rfl ?_
      intro a18 p18
      have s20 : a18.eval (.tmp 20) = .pointer (some ⟨q2, 2, none⟩) := p18.at hs (by decide)
      replace hs := p18.st hs
      refine q_val rfl rfl ?_
      refine g_load rfl s20 Try.isAgg9 (box_cell h_q2 rfl) ?_
      intro a19 p19
      have s21 : a19.eval (.tmp 21) = .string ⟨(rest).toArray⟩ := p19.at hs (by decide)
      replace hs := p19.st hs
      refine q_val rfl rfl ?_
      refine g_lenS rfl Try.underlying9 s21 ?_
      intro a20 p20
      have s22 : a20.eval (.tmp 22) = .int .i64 (((rest).length : Nat) : Int) := p20.at hs (by decide)
      replace hs := p20.st hs
      refine q_val rfl rfl ?_
      refine g_bslice1 (cs := #[.int .i64 (((rest).length : Nat) : Int)]) rfl Try.underlying26 Try.sizeOf3 Try.zeroValue3 s22 (by kernel_rfl) rfl (by decide) ?_
      intro q25 w26 N_q25
      have n_q2_q25 := N_q25.ne ⟨lt_of_block h_q2⟩
      have n_q25_q2 := n_q2_q25.symm
      have n_q4_q25 := N_q25.ne ⟨lt_of_block h_q4⟩
      have n_q25_q4 := n_q4_q25.symm
      have n_q6_q25 := N_q25.ne ⟨lt_of_block h_q6⟩
      have n_q25_q6 := n_q6_q25.symm
      have n_q11_q25 := N_q25.ne ⟨lt_of_block h_q11⟩
      have n_q25_q11 := n_q11_q25.symm
      have d_x9_q25 := own_ne_new o_x9 N_q25
      have g_q25 : GeB w.heap.size q25 := ⟨Nat.le_trans hB.size N_q25.lo⟩
      replace h_q2 := keep_below h_q2 N_q25.below
      replace h_q4 := keep_below h_q4 N_q25.below
      replace h_q6 := keep_below h_q6 N_q25.below
      replace h_q11 := keep_below h_q11 N_q25.below
      replace o_x9 := own_below o_x9 N_q25.below
      replace hB := below_new hB hB.size N_q25
      have h_q25 := N_q25.here
      clear N_q25
      intro a21 p21
      have s23 : a21.eval (.tmp 23) = .slice (some ⟨q25, 0, none⟩) 1 1 := p21.at hs (by decide)
      replace hs := p21.st hs
      refine q_val rfl rfl ?_
      refine g_append (n' := ds.length + 1) (ys := (ds ++ [(((rest).length : Nat) : Int)]).flatMap cI) w.heap.size (.int .i64 0) 1 8 rfl (((p21.ne rfl).trans ((p20.ne rfl).trans ((p19.ne rfl).trans (p18.ne rfl)))).trans s19) s23 Try.underlying26 infoI64 rfl (by decide) o_x9 (fun h => by cases h) (rd_box (xs := ([(((rest).length : Nat) : Int)]).flatMap cI) h_q25 rfl rfl) (flatI_one _) (by omega) hB.size (by decide) (by omega) (by first | rfl | simp [List.flatMap_append] | (simp [List.flatMap_append, cI]; done)) ?_
      intro A_r27 c_r27 w28 P_r27
      have d_r27_q2 := P_r27.ne d_x9_q2 (lt_of_block h_q2)
      have d_r27_q4 := P_r27.ne d_x9_q4 (lt_of_block h_q4)
      have d_r27_q6 := P_r27.ne d_x9_q6 (lt_of_block h_q6)
      have d_r27_q11 := P_r27.ne d_x9_q11 (lt_of_block h_q11)
      have d_r27_q25 := P_r27.ne d_x9_q25 (lt_of_block h_q25)
      have g_r27 := P_r27.ge g_x9 hB.size
      replace h_q2 := keep_grown h_q2 P_r27.grown d_x9_q2
      replace h_q4 := keep_grown h_q4 P_r27.grown d_x9_q4
      replace h_q6 := keep_grown h_q6 P_r27.grown d_x9_q6
      replace h_q11 := keep_grown h_q11 P_r27.grown d_x9_q11
      replace h_q25 := keep_grown h_q25 P_r27.grown d_x9_q25
      replace hB := below_grown hB hB.size P_r27.grown g_x9
      have o_r27 := P_r27.own
      clear P_r27
      intro a22 p22
      have s24 : a22.eval (.tmp 24) = .slice A_r27 (ds.length + 1) c_r27 := p22.at hs (by decide)
      replace hs := p22.st hs
      refine q_val rfl rfl ?_
      refine g_field (r := 3) rfl (((p22.ne rfl).trans ((p21.ne rfl).trans ((p20.ne rfl).trans ((p19.ne rfl).trans ((p18.ne rfl).trans ((p17.ne rfl).trans (p16.ne rfl))))))).trans s6) Try.underlying28 rfl (fun w => Try.sizeOf26 w) rfl rfl ?_
      intro a23 p23
      have s25 : a23.eval (.tmp 25) = .pointer (some ⟨q11, 3, none⟩) := p23.at hs (by decide)
      replace hs := p23.st hs
      refine q_eff rfl rfl ?_
      refine g_store (cs' := #[.int .i64 ch, .int .i64 ct, .string ⟨(rest).toArray⟩, .slice A_r27 (ds.length + 1) c_r27]) rfl s25 ((p23.ne rfl).trans s24) Try.sizeOf26 rfl h_q11 (Nat.le_of_ble_eq_true rfl) rfl ?_
      intro w29 W_w29
      replace h_q2 := keep_wrote h_q2 W_w29 n_q11_q2
      replace h_q4 := keep_wrote h_q4 W_w29 n_q11_q4
      replace h_q6 := keep_wrote h_q6 W_w29 n_q11_q6
      replace h_q11 := W_w29.here
      replace h_q25 := keep_wrote h_q25 W_w29 n_q11_q25
      replace o_r27 := own_wrote o_r27 W_w29 d_r27_q11
      replace hB := below_wrote hB hB.size W_w29 g_q11.le
      clear W_w29
      refine wpList_nil ?_
      replace s2 : a23.eval (.tmp 2) = .pointer (some ⟨q2, 0, none⟩) := ((p23.ne rfl).trans ((p22.ne rfl).trans ((p21.ne rfl).trans ((p20.ne rfl).trans ((p19.ne rfl).trans ((p18.ne rfl).trans ((p17.ne rfl).trans (p16.ne rfl)))))))).trans s2
      replace s3 : a23.eval (.tmp 3) = .pointer (some ⟨q4, 0, none⟩) := ((p23.ne rfl).trans ((p22.ne rfl).trans ((p21.ne rfl).trans ((p20.ne rfl).trans ((p19.ne rfl).trans ((p18.ne rfl).trans ((p17.ne rfl).trans (p16.ne rfl)))))))).trans s3
      replace s4 : a23.eval (.tmp 4) = .pointer (some ⟨q6, 0, none⟩) := ((p23.ne rfl).trans ((p22.ne rfl).trans ((p21.ne rfl).trans ((p20.ne rfl).trans ((p19.ne rfl).trans ((p18.ne rfl).trans ((p17.ne rfl).trans (p16.ne rfl)))))))).trans s4
      replace s5 : a23.eval (.tmp 5) = .bool false := ((p23.ne rfl).trans ((p22.ne rfl).trans ((p21.ne rfl).trans ((p20.ne rfl).trans ((p19.ne rfl).trans ((p18.ne rfl).trans ((p17.ne rfl).trans (p16.ne rfl)))))))).trans s5
      replace s6 : a23.eval (.tmp 6) = .pointer (some ⟨q11, 0, none⟩) := ((p23.ne rfl).trans ((p22.ne rfl).trans ((p21.ne rfl).trans ((p20.ne rfl).trans ((p19.ne rfl).trans ((p18.ne rfl).trans ((p17.ne rfl).trans (p16.ne rfl)))))))).trans s6
      refine hK24 _ _ ?_
      clear hK24
      refine wp_seq_k fun K30 hK30 => ?_
      refine wp_drawn (n := 38) [] [6] [] (fun k_ v_ _wx => match k_ with | 0 => v_ = .pointer (some ⟨q2, 2, none⟩) | 1 => v_ = .string ⟨(rest).toArray⟩ | 2 => v_ = .agg #[.int .i64 x.f0, .int .i64 x.f1, .string ⟨(x.f2).toArray⟩] | 3 => v_ = .string ⟨(pkEnc x).toArray⟩ | 4 => v_ = .string ⟨(rest ++ (pkEnc x)).toArray⟩ | 5 => v_ = .pointer (some ⟨q11, 2, none⟩) | _ => True) (by kernel_rfl) (by kernel_rfl) (by kernel_rfl) (by kernel_rfl) hs.size ?_ ?_ ?_
      · intro i v wa wb hb hr
        rcases i with _ | _ | _ | _ | _ | _ | _ | i
        · exact hr
        · exact hr
        · exact hr
        · exact hr
        · exact hr
        · exact hr
        · trivial
        · trivial
      · refine d_step rfl rfl ?_ (d_step rfl rfl ?_ (d_step rfl rfl ?_ (d_step rfl rfl ?_ (d_step rfl rfl ?_ (d_step rfl rfl ?_ (d_chain rfl (d_nil)))))))
        · intro xv_ wx ρ hρ hwx hd K hK
          have e2 : ρ (.tmp 2) = .pointer (some ⟨q2, 0, none⟩) := (hρ.inn 2 rfl).trans s2
          refine g_field (r := 2) rfl e2 Try.underlying28 rfl (fun w => Try.sizeOf9 w) rfl rfl ?_
          exact hK _ _ (Below.refl _ _) rfl
        · intro xv_ wx ρ hρ hwx hd K hK
          obtain r0 : xv_ 0 = .pointer (some ⟨q2, 2, none⟩) := hd 0 rfl
          have e26 : ρ (.tmp 26) = .pointer (some ⟨q2, 2, none⟩) := (hρ.out 0 26 rfl (by rw [hs.size]; decide) rfl).trans r0
          have h_q2 := keep_below h_q2 hwx
          refine g_load rfl e26 Try.isAgg9 (box_cell h_q2 rfl) ?_
          exact hK _ _ (Below.refl _ _) rfl
        · intro xv_ wx ρ hρ hwx hd K hK
          have e3 : ρ (.tmp 3) = .pointer (some ⟨q4, 0, none⟩) := (hρ.inn 3 rfl).trans s3
          have h_q4 := keep_below h_q4 hwx
          refine g_loadB rfl e3 Try.isAgg32 Try.sizeOf32 rfl h_q4 ?_
          exact hK _ _ (Below.refl _ _) rfl
        · intro xv_ wx ρ hρ hwx hd K hK
          obtain r2 : xv_ 2 = .agg #[.int .i64 x.f0, .int .i64 x.f1, .string ⟨(x.f2).toArray⟩] := hd 2 rfl
          have e28 : ρ (.tmp 28) = .agg #[.int .i64 x.f0, .int .i64 x.f1, .string ⟨(x.f2).toArray⟩] := (hρ.out 2 28 rfl (by rw [hs.size]; decide) rfl).trans r2
          refine g_call rfl (hρ.fn _) Try.call64 (arr1 e28) ?_
          refine (sEncodePacket_any _ hTx).mono ?_
          rintro e wy ⟨rfl, hb31⟩
          exact ⟨_, rfl, hK _ _ hb31 rfl⟩
        · intro xv_ wx ρ hρ hwx hd K hK
          obtain r1 : xv_ 1 = .string ⟨(rest).toArray⟩ := hd 1 rfl
          have e27 : ρ (.tmp 27) = .string ⟨(rest).toArray⟩ := (hρ.out 1 27 rfl (by rw [hs.size]; decide) rfl).trans r1
          obtain r3 : xv_ 3 = .string ⟨(pkEnc x).toArray⟩ := hd 3 rfl
          have e29 : ρ (.tmp 29) = .string ⟨(pkEnc x).toArray⟩ := (hρ.out 3 29 rfl (by rw [hs.size]; decide) rfl).trans r3
          refine g_concat rfl e27 e29 (by (try simp only [List.length_append]); omega) ?_
          exact hK _ _ (Below.refl _ _) rfl
        · intro xv_ wx ρ hρ hwx hd K hK
          have e6 : ρ (.tmp 6) = .pointer (some ⟨q11, 0, none⟩) := (hρ.inn 6 rfl).trans s6
          refine g_field (r := 2) rfl e6 Try.underlying28 rfl (fun w => Try.sizeOf9 w) rfl rfl ?_
          exact hK _ _ (Below.refl _ _) rfl
      · intro x0_ w32 hb_w32 hr0
        obtain r0 : x0_ 0 = .pointer (some ⟨q2, 2, none⟩) := hr0 0 (by decide) rfl rfl
        obtain r1 : x0_ 1 = .string ⟨(rest).toArray⟩ := hr0 1 (by decide) rfl rfl
        obtain r2 : x0_ 2 = .agg #[.int .i64 x.f0, .int .i64 x.f1, .string ⟨(x.f2).toArray⟩] := hr0 2 (by decide) rfl rfl
        obtain r3 : x0_ 3 = .string ⟨(pkEnc x).toArray⟩ := hr0 3 (by decide) rfl rfl
        obtain r4 : x0_ 4 = .string ⟨(rest ++ (pkEnc x)).toArray⟩ := hr0 4 (by decide) rfl rfl
        obtain r5 : x0_ 5 = .pointer (some ⟨q11, 2, none⟩) := hr0 5 (by decide) rfl rfl
        clear hr0
        replace h_q2 := keep_below h_q2 hb_w32
        replace h_q4 := keep_below h_q4 hb_w32
        replace h_q6 := keep_below h_q6 hb_w32
        replace h_q11 := keep_below h_q11 hb_w32
        replace h_q25 := keep_below h_q25 hb_w32
        replace o_r27 := own_below o_r27 hb_w32
        replace hB := hB.trans (hb_w32.mono hB.size)
        clear hb_w32
        intro op_ ho_ xv_ ρ hρ qx_ ql_ qk_
        obtain rfl := Option.some.inj ho_
        clear ho_
        have e31 : ρ (.tmp 31) = .pointer (some ⟨q11, 2, none⟩) := (hρ.out 5 31 rfl (by rw [hs.size]; decide) rfl).trans ((qx_ 5 (by decide) rfl rfl).trans r5)
        have e30 : ρ (.tmp 30) = .string ⟨(rest ++ (pkEnc x)).toArray⟩ := (hρ.out 4 30 rfl (by rw [hs.size]; decide) rfl).trans ((qx_ 4 (by decide) rfl rfl).trans r4)
        refine g_store (cs' := #[.int .i64 ch, .int .i64 ct, .string ⟨(rest ++ (pkEnc x)).toArray⟩, .slice A_r27 (ds.length + 1) c_r27]) rfl e31 e30 Try.sizeOf9 rfl h_q11 (Nat.le_of_ble_eq_true rfl) rfl ?_
        intro w33 W_w33
        replace h_q2 := keep_wrote h_q2 W_w33 n_q11_q2
        replace h_q4 := keep_wrote h_q4 W_w33 n_q11_q4
        replace h_q6 := keep_wrote h_q6 W_w33 n_q11_q6
        replace h_q11 := W_w33.here
        replace h_q25 := keep_wrote h_q25 W_w33 n_q11_q25
        replace o_r27 := own_wrote o_r27 W_w33 d_r27_q11
        replace hB := below_wrote hB hB.size W_w33 g_q11.le
        clear W_w33
        clear e30 e31
        clear hρ qx_ ql_ qk_
        intro xv_ a24 hρ hsz hdf qx_ ql_ qk_ qlk_
        replace s2 : a24.eval (.tmp 2) = .pointer (some ⟨q2, 0, none⟩) := (hρ.inn 2 rfl).trans s2
        replace s4 : a24.eval (.tmp 4) = .pointer (some ⟨q6, 0, none⟩) := (hρ.inn 4 rfl).trans s4
        replace s5 : a24.eval (.tmp 5) = .bool false := (hρ.inn 5 rfl).trans s5
        replace s6 : a24.eval (.tmp 6) = .pointer (some ⟨q11, 0, none⟩) := (hρ.inn 6 rfl).trans s6
        replace hs : St 38 a24 := ⟨hsz.trans hs.size, hdf.trans hs.nodef⟩
        clear hρ hsz hdf qx_ ql_ qk_ qlk_
        refine hK30 _ _ ?_
        clear hK30
        refine wp_seq_k fun K34 hK34 => ?_
        refine wp_seq_k fun K35 hK35 => ?_
        refine wp_region_lit ?_
        refine q_val rfl rfl ?_
        refine g_loadB rfl s6 Try.isAgg28 Try.sizeOf28 rfl h_q11 ?_
        intro a25 p25
        have s32 : a25.eval (.tmp 32) = .agg #[.int .i64 ch, .int .i64 ct, .string ⟨(rest ++ (pkEnc x)).toArray⟩, .slice A_r27 (ds.length + 1) c_r27] := p25.at hs (by decide)
        replace hs := p25.st hs
        refine q_val rfl rfl ?_
        refine g_call rfl rfl Try.call40 (arr1 s32) ?_
        refine (sPackerOk_any _ _ _ _ _ _ (ds ++ [(((rest).length : Nat) : Int)]) _ (by unfold Txt; (try simp only [List.length_append]); omega) (by simp only [List.length_append, List.length_cons, List.length_nil, List.length_drop, List.length_take] <;> omega) (by omega) (Rd.of_own o_r27)).mono ?_
        rintro e w37 ⟨rfl, hb36⟩
        refine ⟨_, rfl, ?_⟩
        replace h_q2 := keep_below h_q2 hb36
        replace h_q4 := keep_below h_q4 hb36
        replace h_q6 := keep_below h_q6 hb36
        replace h_q11 := keep_below h_q11 hb36
        replace h_q25 := keep_below h_q25 hb36
        replace o_r27 := own_below o_r27 hb36
        replace hB := hB.trans (hb36.mono hB.size)
        clear hb36
        intro a26 p26
        have s33 : a26.eval (.tmp 33) = .bool (pkrOk ch ct (rest ++ (pkEnc x)) (ds ++ [(((rest).length : Nat) : Int)])) := p26.at hs (by decide)
        replace hs := p26.st hs
        refine q_val rfl rfl ?_
        refine g_not rfl s33 ?_
        intro a27 p27
        have s34 : a27.eval (.tmp 34) = .bool (!(pkrOk ch ct (rest ++ (pkEnc x)) (ds ++ [(((rest).length : Nat) : Int)]))) := p27.at hs (by decide)
        replace hs := p27.st hs
        refine wpList_nil ?_
        replace s2 : a27.eval (.tmp 2) = .pointer (some ⟨q2, 0, none⟩) := ((p27.ne rfl).trans ((p26.ne rfl).trans (p25.ne rfl))).trans s2
        replace s4 : a27.eval (.tmp 4) = .pointer (some ⟨q6, 0, none⟩) := ((p27.ne rfl).trans ((p26.ne rfl).trans (p25.ne rfl))).trans s4
        replace s5 : a27.eval (.tmp 5) = .bool false := ((p27.ne rfl).trans ((p26.ne rfl).trans (p25.ne rfl))).trans s5
        replace s6 : a27.eval (.tmp 6) = .pointer (some ⟨q11, 0, none⟩) := ((p27.ne rfl).trans ((p26.ne rfl).trans (p25.ne rfl))).trans s6
        refine hK35 _ _ ?_
        clear hK35
        cases hc38 : pkrOk ch ct (rest ++ (pkEnc x)) (ds ++ [(((rest).length : Nat) : Int)])
        · replace s34 := s34.trans (congrArg (fun b => Value.bool (!b)) hc38)
          replace s34 : a27.eval (.tmp 34) = .bool true := s34
          refine c_true s34 ?_
          refine wp_seq_k fun K39 hK39 => ?_
          refine wp_region_lit ?_
          refine q_val rfl rfl ?_
          refine g_loadB rfl s2 Try.isAgg28 Try.sizeOf28 rfl h_q2 ?_
          intro a28 p28
          have s35 : a28.eval (.tmp 35) = .agg #[.int .i64 ch, .int .i64 ct, .string ⟨(rest).toArray⟩, .slice B ds.length dp] := p28.at hs (by decide)
          replace hs := p28.st hs
          refine q_val rfl rfl ?_
          refine g_call rfl rfl Try.call41 (arr1 s35) ?_
          refine (l03Copy_any _ _ _ _ _ _ ds _ (by unfold Txt; (try simp only [List.length_append]); omega) rfl (by omega) hnn_d (hr_d.below hB)).mono ?_
          rintro e w41 ⟨A40, c40, rfl, o_x40, hb40⟩
          refine ⟨_, rfl, ?_⟩
          have d_x40_q2 := own_ne_box o_x40 (lt_of_block h_q2)
          have d_x40_q4 := own_ne_box o_x40 (lt_of_block h_q4)
          have d_x40_q6 := own_ne_box o_x40 (lt_of_block h_q6)
          have d_x40_q11 := own_ne_box o_x40 (lt_of_block h_q11)
          have d_x40_q25 := own_ne_box o_x40 (lt_of_block h_q25)
          have m_r27_x40 := own_ne_row o_r27 o_x40 (Nat.le_refl _)
          have m_x40_r27 := ne_row_symm m_r27_x40
          have g_x40 : ∀ b, (A40 : Option Addr).map (·.block) = some b → w.heap.size ≤ b := fun b h => Nat.le_trans hB.size (own_row o_x40 b h).1
          replace o_x40 := own_base (base := w.heap.size) o_x40 hB.size
          replace h_q2 := keep_below h_q2 hb40
          replace h_q4 := keep_below h_q4 hb40
          replace h_q6 := keep_below h_q6 hb40
          replace h_q11 := keep_below h_q11 hb40
          replace h_q25 := keep_below h_q25 hb40
          replace o_r27 := own_below o_r27 hb40
          replace hB := hB.trans (hb40.mono hB.size)
          clear hb40
          intro a29 p29
          have s36 : a29.eval (.tmp 36) = .agg #[.int .i64 ch, .int .i64 ct, .string ⟨(rest).toArray⟩, .slice A40 ds.length c40] := p29.at hs (by decide)
          replace hs := p29.st hs
          refine q_eff rfl rfl ?_
          refine g_storeB rfl (((p29.ne rfl).trans (p28.ne rfl)).trans s4) s36 Try.sizeOf28 rfl rfl h_q6 rfl ?_
          intro w42 W_w42
          replace h_q2 := keep_wrote h_q2 W_w42 n_q6_q2
          replace h_q4 := keep_wrote h_q4 W_w42 n_q6_q4
          replace h_q6 := W_w42.here
          replace h_q11 := keep_wrote h_q11 W_w42 n_q6_q11
          replace h_q25 := keep_wrote h_q25 W_w42 n_q6_q25
          replace o_r27 := own_wrote o_r27 W_w42 d_r27_q6
          replace o_x40 := own_wrote o_x40 W_w42 d_x40_q6
          replace hB := below_wrote hB hB.size W_w42 g_q6.le
          clear W_w42
          refine q_val rfl rfl ?_
          refine g_assign rfl rfl ?_
          intro a30 p30
          have s5 : a30.eval (.tmp 5) = .bool false := p30.at hs (by decide)
          replace hs := p30.st hs
          refine wpList_nil ?_
          replace s4 : a30.eval (.tmp 4) = .pointer (some ⟨q6, 0, none⟩) := ((p30.ne rfl).trans ((p29.ne rfl).trans (p28.ne rfl))).trans s4
          replace s6 : a30.eval (.tmp 6) = .pointer (some ⟨q11, 0, none⟩) := ((p30.ne rfl).trans ((p29.ne rfl).trans (p28.ne rfl))).trans s6
          refine hK39 _ _ ?_
          clear hK39
          refine wp_ret ?_
          try dsimp only [Exit.then, Exit.inBlock]
          refine ret2 hs Try.results42 (res_cell s4 h_q6 Try.isAgg28 Try.sizeOf28 rfl) (res_tmp s5) ?_
          refine ⟨_, rfl, ?_, hB⟩
          have e : packR ch ct rest ds x = ((rest, ds), false) := by unfold packR; simp [h1, h2, hc38]
          rw [e]
          exact ⟨_, rfl, _, _, _, rfl, rfl, o_x40⟩
        · replace s34 := s34.trans (congrArg (fun b => Value.bool (!b)) hc38)
          replace s34 : a27.eval (.tmp 34) = .bool false := s34
          refine c_false s34 ?_
          refine wp_skip ?_
          refine hK34 _ _ ?_
          clear hK34
          refine wp_seq_k fun K43 hK43 => ?_
          refine wp_region_lit ?_
          refine q_val rfl rfl ?_
          refine g_loadB rfl s6 Try.isAgg28 Try.sizeOf28 rfl h_q11 ?_
          intro a28 p28
          have s37 : a28.eval (.tmp 37) = .agg #[.int .i64 ch, .int .i64 ct, .string ⟨(rest ++ (pkEnc x)).toArray⟩, .slice A_r27 (ds.length + 1) c_r27] := p28.at hs (by decide)
          replace hs := p28.st hs
          refine q_eff rfl rfl ?_
          refine g_storeB rfl ((p28.ne rfl).trans s4) s37 Try.sizeOf28 rfl rfl h_q6 rfl ?_
          intro w44 W_w44
          replace h_q2 := keep_wrote h_q2 W_w44 n_q6_q2
          replace h_q4 := keep_wrote h_q4 W_w44 n_q6_q4
          replace h_q6 := W_w44.here
          replace h_q11 := keep_wrote h_q11 W_w44 n_q6_q11
          replace h_q25 := keep_wrote h_q25 W_w44 n_q6_q25
          replace o_r27 := own_wrote o_r27 W_w44 d_r27_q6
          replace hB := below_wrote hB hB.size W_w44 g_q6.le
          clear W_w44
          refine q_val rfl rfl ?_
          refine g_assign rfl rfl ?_
          intro a29 p29
          have s5 : a29.eval (.tmp 5) = .bool true := p29.at hs (by decide)
          replace hs := p29.st hs
          refine wpList_nil ?_
          replace s4 : a29.eval (.tmp 4) = .pointer (some ⟨q6, 0, none⟩) := ((p29.ne rfl).trans (p28.ne rfl)).trans s4
          refine hK43 _ _ ?_
          clear hK43
          refine wp_ret ?_
          try dsimp only [Exit.then, Exit.inBlock]
          refine ret2 hs Try.results42 (res_cell s4 h_q6 Try.isAgg28 Try.sizeOf28 rfl) (res_tmp s5) ?_
          refine ⟨_, rfl, ?_, hB⟩
          have e : packR ch ct rest ds x = ((rest ++ (pkEnc x), ds ++ [(((rest).length : Nat) : Int)]), true) := by unfold packR; simp [h1, h2, hc38]
          rw [e]
          exact ⟨_, rfl, _, _, _, rfl, (by simp only [List.length_append, List.length_cons, List.length_nil, List.length_drop, List.length_take] <;> omega), o_r27⟩
end Go.Proofs.Ytmcgmiapbdoocaa
