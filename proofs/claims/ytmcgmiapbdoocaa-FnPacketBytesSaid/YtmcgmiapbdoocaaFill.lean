/- Contracts: a packer filled to whole frames, in the program and in the reference. No condition. -/
import Derived.Test.YtmcgmiapbdoocaaPack
import Derived.Test.YtmcgmiapbdoocaaFlowNum
import Derived.Test.YtmcgmiapbdoocaaRep
namespace Go.Proofs.Ytmcgmiapbdoocaa
open Go.RowKit

def fillN (n : Nat) : Nat := (44 - n % 24) % 24
def fillR (ch ct : Int) (rest : List UInt8) (ds : List Int) : List UInt8 × List Int :=
  if pkrOk ch ct rest ds && !decide (rest.length % 24 = 0) then (packR ch ct rest ds ⟨15, 0, List.replicate (fillN rest.length) 0⟩).1 else (rest, ds)
theorem fillR_no {ch ct : Int} {rest : List UInt8} {ds : List Int} (h : pkrOk ch ct rest ds = false ∨ rest.length % 24 = 0) : fillR ch ct rest ds = (rest, ds) := by
  unfold fillR
  rcases h with h | h <;> simp [h]
theorem fillR_yes {ch ct : Int} {rest : List UInt8} {ds : List Int} {k : Nat} (h : pkrOk ch ct rest ds = true) (h2 : ¬ rest.length % 24 = 0) (hk : k = fillN rest.length) : fillR ch ct rest ds = (packR ch ct rest ds ⟨15, 0, List.replicate k 0⟩).1 := by
  unfold fillR
  subst hk
  rw [h, decide_eq_false h2]
  rfl
set_option maxRecDepth 100000 in
set_option maxHeartbeats 4000000 in
theorem fillPacker_any (ch ct : Int) (rest : List UInt8) (B : Option Addr) (m dp : Nat) (ds : List Int) (w : World) (hx : rest.length ≤ 1048576) (hm : ds.length = m) (hbm : m ≤ 1048576) (hnn_d : B = none → m = 0 ∧ dp = 0) (hr_d : Rd w 1 B m (ds.flatMap cI)) :
    Calls Try.prog 11 #[.agg #[.int .i64 ch, .int .i64 ct, .string ⟨rest.toArray⟩, .slice B m dp]] w fun e w' => ∃ v, e = .returned v ∧ PRes w.heap.size w' ch ct (fillR ch ct rest ds) v ∧ Below w.heap.size w w' := by
  subst hm
  refine enter 37 Try.func11 rfl rfl (Nat.le_of_ble_eq_true rfl) ?_
  intro a0 hs hargs
  have s0 : a0.eval (.tmp 0) = .agg #[.int .i64 ch, .int .i64 ct, .string ⟨(rest).toArray⟩, .slice B ds.length dp] := hargs 0 _ rfl
  clear hargs
  have hB : Below w.heap.size w w := Below.refl _ _
  refine wp_seq_k fun K1 hK1 => ?_
  refine wp_region_lit ?_
  refine q_val rfl rfl ?_
  refine g_box rfl s0 rfl ?_
  intro q2 w3 N_q2
  have g_q2 : GeB w.heap.size q2 := ⟨Nat.le_trans hB.size N_q2.lo⟩
  replace hB := below_new hB hB.size N_q2
  have h_q2 := N_q2.here
  clear N_q2
  intro a1 p1
  have s1 : a1.eval (.tmp 1) = .pointer (some ⟨q2, 0, none⟩) := p1.at hs (by decide)
  replace hs := p1.st hs
  refine q_val rfl rfl ?_
  refine g_alloc rfl Try.zeroValue28 rfl ?_
  intro q4 w5 N_q4
  have n_q2_q4 := N_q4.ne ⟨lt_of_block h_q2⟩
  have n_q4_q2 := n_q2_q4.symm
  have g_q4 : GeB w.heap.size q4 := ⟨Nat.le_trans hB.size N_q4.lo⟩
  replace h_q2 := keep_below h_q2 N_q4.below
  replace hB := below_new hB hB.size N_q4
  have h_q4 := N_q4.here
  clear N_q4
  intro a2 p2
  have s2 : a2.eval (.tmp 2) = .pointer (some ⟨q4, 0, none⟩) := p2.at hs (by decide)
  replace hs := p2.st hs
  refine wpList_nil ?_
  replace s1 : a2.eval (.tmp 1) = .pointer (some ⟨q2, 0, none⟩) := (p2.ne rfl).trans s1
  refine hK1 _ _ ?_
  clear hK1
  refine wp_seq_k fun K6 hK6 => ?_
  refine wp_seq_k fun K7 hK7 => ?_
  refine wp_region_lit ?_
  refine q_val rfl rfl ?_
  refine g_loadB rfl s1 Try.isAgg28 Try.sizeOf28 rfl h_q2 ?_
  intro a3 p3
  have s6 : a3.eval (.tmp 6) = .agg #[.int .i64 ch, .int .i64 ct, .string ⟨(rest).toArray⟩, .slice B ds.length dp] := p3.at hs (by decide)
  replace hs := p3.st hs
  refine q_val rfl rfl ?_
  refine g_call rfl rfl Try.call31 (arr1 s6) ?_
  refine (packerOk_any _ _ _ _ _ _ ds _ (by unfold Txt; omega) rfl (by omega) (hr_d.below hB)).mono ?_
  rintro e w9 ⟨rfl, hb8⟩
  refine ⟨_, rfl, ?_⟩
  replace h_q2 := keep_below h_q2 hb8
  replace h_q4 := keep_below h_q4 hb8
  replace hB := hB.trans (hb8.mono hB.size)
  clear hb8
  intro a4 p4
  have s7 : a4.eval (.tmp 7) = .bool (pkrOk ch ct rest ds) := p4.at hs (by decide)
  replace hs := p4.st hs
  refine q_val rfl rfl ?_
  refine g_not rfl s7 ?_
  intro a5 p5
  have s8 : a5.eval (.tmp 8) = .bool (!(pkrOk ch ct rest ds)) := p5.at hs (by decide)
  replace hs := p5.st hs
  refine q_val rfl rfl ?_
  refine g_move rfl s8 ?_
  intro a6 p6
  have s9 : a6.eval (.tmp 9) = .bool (!(pkrOk ch ct rest ds)) := p6.at hs (by decide)
  replace hs := p6.st hs
  cases h1 : pkrOk ch ct rest ds
  · replace s7 := s7.trans (congrArg Value.bool h1)
    replace s7 : a4.eval (.tmp 7) = .bool false := s7
    replace s8 := s8.trans (congrArg (fun b => Value.bool (!b)) h1)
    replace s8 : a5.eval (.tmp 8) = .bool true := s8
    replace s9 := s9.trans (congrArg (fun b => Value.bool (!b)) h1)
    replace s9 : a6.eval (.tmp 9) = .bool true := s9
    refine q_skip rfl rfl s9 rfl ?_
    intro a7 p7
    have s10 : a7.eval (.tmp 10) = undef := p7.at hs (by decide)
    replace hs := p7.st hs
    refine q_skip rfl rfl ((p7.ne rfl).trans s9) rfl ?_
    intro a8 p8
    have s11 : a8.eval (.tmp 11) = undef := p8.at hs (by decide)
    replace hs := p8.st hs
    refine q_skip rfl rfl (((p8.ne rfl).trans (p7.ne rfl)).trans s9) rfl ?_
    intro a9 p9
    have s12 : a9.eval (.tmp 12) = undef := p9.at hs (by decide)
    replace hs := p9.st hs
    refine q_skip rfl rfl (((p9.ne rfl).trans ((p8.ne rfl).trans (p7.ne rfl))).trans s9) rfl ?_
    intro a10 p10
    have s13 : a10.eval (.tmp 13) = undef := p10.at hs (by decide)
    replace hs := p10.st hs
    refine q_skip rfl rfl (((p10.ne rfl).trans ((p9.ne rfl).trans ((p8.ne rfl).trans (p7.ne rfl)))).trans s9) rfl ?_
    intro a11 p11
    have s14 : a11.eval (.tmp 14) = undef := p11.at hs (by decide)
    replace hs := p11.st hs
    refine q_val rfl rfl ?_
    refine g_pick_t rfl (((p11.ne rfl).trans ((p10.ne rfl).trans ((p9.ne rfl).trans ((p8.ne rfl).trans (p7.ne rfl))))).trans s9) rfl ?_
    intro a12 p12
    have s15 : a12.eval (.tmp 15) = .bool true := p12.at hs (by decide)
    replace hs := p12.st hs
    refine wpList_nil ?_
    replace s1 : a12.eval (.tmp 1) = .pointer (some ⟨q2, 0, none⟩) := ((p12.ne rfl).trans ((p11.ne rfl).trans ((p10.ne rfl).trans ((p9.ne rfl).trans ((p8.ne rfl).trans ((p7.ne rfl).trans ((p6.ne rfl).trans ((p5.ne rfl).trans ((p4.ne rfl).trans (p3.ne rfl)))))))))).trans s1
    replace s2 : a12.eval (.tmp 2) = .pointer (some ⟨q4, 0, none⟩) := ((p12.ne rfl).trans ((p11.ne rfl).trans ((p10.ne rfl).trans ((p9.ne rfl).trans ((p8.ne rfl).trans ((p7.ne rfl).trans ((p6.ne rfl).trans ((p5.ne rfl).trans ((p4.ne rfl).trans (p3.ne rfl)))))))))).trans s2
    refine hK7 _ _ ?_
    clear hK7
    refine c_true s15 ?_
    refine wp_seq_k fun K10 hK10 => ?_
    refine wp_region_lit ?_
    refine q_val rfl rfl ?_
    refine g_loadB rfl s1 Try.isAgg28 Try.sizeOf28 rfl h_q2 ?_
    intro a13 p13
    have s16 : a13.eval (.tmp 16) = .agg #[.int .i64 ch, .int .i64 ct, .string ⟨(rest).toArray⟩, .slice B ds.length dp] := p13.at hs (by decide)
    replace hs := p13.st hs
    refine q_val rfl rfl ?_
    refine g_call rfl rfl Try.call35 (arr1 s16) ?_
    refine (clonePacker_any _ _ _ _ _ _ ds _ (by unfold Txt; omega) rfl (by omega) hnn_d (hr_d.below hB)).mono ?_
    rintro e w12 ⟨A11, c11, rfl, o_x11, hb11⟩
    refine ⟨_, rfl, ?_⟩
    have d_x11_q2 := own_ne_box o_x11 (lt_of_block h_q2)
    have d_x11_q4 := own_ne_box o_x11 (lt_of_block h_q4)
    have g_x11 : ∀ b, (A11 : Option Addr).map (·.block) = some b → w.heap.size ≤ b := fun b h => Nat.le_trans hB.size (own_row o_x11 b h).1
    replace o_x11 := own_base (base := w.heap.size) o_x11 hB.size
    replace h_q2 := keep_below h_q2 hb11
    replace h_q4 := keep_below h_q4 hb11
    replace hB := hB.trans (hb11.mono hB.size)
    clear hb11
    intro a14 p14
    have s17 : a14.eval (.tmp 17) = .agg #[.int .i64 ch, .int .i64 ct, .string ⟨(rest).toArray⟩, .slice A11 ds.length c11] := p14.at hs (by decide)
    replace hs := p14.st hs
    refine q_eff rfl rfl ?_
    refine g_storeB rfl (((p14.ne rfl).trans (p13.ne rfl)).trans s2) s17 Try.sizeOf28 rfl rfl h_q4 rfl ?_
    intro w13 W_w13
    replace h_q2 := keep_wrote h_q2 W_w13 n_q4_q2
    replace h_q4 := W_w13.here
    replace o_x11 := own_wrote o_x11 W_w13 d_x11_q4
    replace hB := below_wrote hB hB.size W_w13 g_q4.le
    clear W_w13
    refine wpList_nil ?_
    replace s1 : a14.eval (.tmp 1) = .pointer (some ⟨q2, 0, none⟩) := ((p14.ne rfl).trans (p13.ne rfl)).trans s1
    replace s2 : a14.eval (.tmp 2) = .pointer (some ⟨q4, 0, none⟩) := ((p14.ne rfl).trans (p13.ne rfl)).trans s2
    refine hK10 _ _ ?_
    clear hK10
    refine wp_ret ?_
    try dsimp only [Exit.then, Exit.inBlock]
    refine ret1 hs Try.results11 (res_cell s2 h_q4 Try.isAgg28 Try.sizeOf28 rfl) ?_
    refine ⟨_, rfl, ?_, hB⟩
    rw [fillR_no (.inl h1)]
    exact ⟨_, _, _, rfl, rfl, o_x11⟩
  · replace s7 := s7.trans (congrArg Value.bool h1)
    replace s7 : a4.eval (.tmp 7) = .bool true := s7
    replace s8 := s8.trans (congrArg (fun b => Value.bool (!b)) h1)
    replace s8 : a5.eval (.tmp 8) = .bool false := s8
    replace s9 := s9.trans (congrArg (fun b => Value.bool (!b)) h1)
    replace s9 : a6.eval (.tmp 9) = .bool false := s9
    refine q_take rfl rfl s9 rfl ?_
    refine g_field (r := 2) rfl (((p6.ne rfl).trans ((p5.ne rfl).trans ((p4.ne rfl).trans (p3.ne rfl)))).trans s1) Try.underlying28 rfl (fun w => Try.sizeOf9 w) rfl rfl ?_
    intro a7 p7
    have s10 : a7.eval (.tmp 10) = .pointer (some ⟨q2, 2, none⟩) := p7.at hs (by decide)
    replace hs := p7.st hs
    refine q_take rfl rfl ((p7.ne rfl).trans s9) rfl ?_
    refine g_load rfl s10 Try.isAgg9 (box_cell h_q2 rfl) ?_
    intro a8 p8
    have s11 : a8.eval (.tmp 11) = .string ⟨(rest).toArray⟩ := p8.at hs (by decide)
    replace hs := p8.st hs
    refine q_take rfl rfl (((p8.ne rfl).trans (p7.ne rfl)).trans s9) rfl ?_
    refine g_lenS rfl Try.underlying9 s11 ?_
    intro a9 p9
    have s12 : a9.eval (.tmp 12) = .int .i64 (((rest).length : Nat) : Int) := p9.at hs (by decide)
    replace hs := p9.st hs
    refine q_take rfl rfl (((p9.ne rfl).trans ((p8.ne rfl).trans (p7.ne rfl))).trans s9) rfl ?_
    refine g_rem (N := (rest).length) (M := 24) rfl s12 rfl (by omega) rfl (by decide) (by decide) ?_
    intro a10 p10
    have s13 : a10.eval (.tmp 13) = .int .i64 ((((rest).length) % 24 : Nat) : Int) := p10.at hs (by decide)
    replace hs := p10.st hs
    refine q_take rfl rfl (((p10.ne rfl).trans ((p9.ne rfl).trans ((p8.ne rfl).trans (p7.ne rfl)))).trans s9) rfl ?_
    refine g_eql rfl s13 rfl ?_
    intro a11 p11
    have s14 : a11.eval (.tmp 14) = .bool (decide (((((rest).length) % 24 : Nat) : Int) = 0)) := p11.at hs (by decide)
    replace hs := p11.st hs
    refine q_val rfl rfl ?_
    refine g_pick_f rfl (((p11.ne rfl).trans ((p10.ne rfl).trans ((p9.ne rfl).trans ((p8.ne rfl).trans (p7.ne rfl))))).trans s9) s14 ?_
    intro a12 p12
    have s15 : a12.eval (.tmp 15) = .bool (decide (((((rest).length) % 24 : Nat) : Int) = 0)) := p12.at hs (by decide)
    replace hs := p12.st hs
    refine wpList_nil ?_
    replace s1 : a12.eval (.tmp 1) = .pointer (some ⟨q2, 0, none⟩) := ((p12.ne rfl).trans ((p11.ne rfl).trans ((p10.ne rfl).trans ((p9.ne rfl).trans ((p8.ne rfl).trans ((p7.ne rfl).trans ((p6.ne rfl).trans ((p5.ne rfl).trans ((p4.ne rfl).trans (p3.ne rfl)))))))))).trans s1
    replace s2 : a12.eval (.tmp 2) = .pointer (some ⟨q4, 0, none⟩) := ((p12.ne rfl).trans ((p11.ne rfl).trans ((p10.ne rfl).trans ((p9.ne rfl).trans ((p8.ne rfl).trans ((p7.ne rfl).trans ((p6.ne rfl).trans ((p5.ne rfl).trans ((p4.ne rfl).trans (p3.ne rfl)))))))))).trans s2
    refine hK7 _ _ ?_
    clear hK7
    by_cases h2 : ((((rest).length) % 24 : Nat) : Int) = 0
    · replace s15 := s15.trans (congrArg Value.bool (decide_eq_true h2))
      replace s15 : a12.eval (.tmp 15) = .bool true := s15
      refine c_true s15 ?_
      refine wp_seq_k fun K14 hK14 => ?_
      refine wp_region_lit ?_
      refine q_val rfl rfl ?_
      refine g_loadB rfl s1 Try.isAgg28 Try.sizeOf28 rfl h_q2 ?_
      intro a13 p13
      have s16 : a13.eval (.tmp 16) = .agg #[.int .i64 ch, .int .i64 ct, .string ⟨(rest).toArray⟩, .slice B ds.length dp] := p13.at hs (by decide)
      replace hs := p13.st hs
      refine q_val rfl rfl ?_
      refine g_call rfl rfl Try.call35 (arr1 s16) ?_
      refine (clonePacker_any _ _ _ _ _ _ ds _ (by unfold Txt; omega) rfl (by omega) hnn_d (hr_d.below hB)).mono ?_
      rintro e w16 ⟨A15, c15, rfl, o_x15, hb15⟩
      refine ⟨_, rfl, ?_⟩
      have d_x15_q2 := own_ne_box o_x15 (lt_of_block h_q2)
      have d_x15_q4 := own_ne_box o_x15 (lt_of_block h_q4)
      have g_x15 : ∀ b, (A15 : Option Addr).map (·.block) = some b → w.heap.size ≤ b := fun b h => Nat.le_trans hB.size (own_row o_x15 b h).1
      replace o_x15 := own_base (base := w.heap.size) o_x15 hB.size
      replace h_q2 := keep_below h_q2 hb15
      replace h_q4 := keep_below h_q4 hb15
      replace hB := hB.trans (hb15.mono hB.size)
      clear hb15
      intro a14 p14
      have s17 : a14.eval (.tmp 17) = .agg #[.int .i64 ch, .int .i64 ct, .string ⟨(rest).toArray⟩, .slice A15 ds.length c15] := p14.at hs (by decide)
      replace hs := p14.st hs
      refine q_eff rfl rfl ?_
      refine g_storeB rfl (((p14.ne rfl).trans (p13.ne rfl)).trans s2) s17 Try.sizeOf28 rfl rfl h_q4 rfl ?_
      intro w17 W_w17
      replace h_q2 := keep_wrote h_q2 W_w17 n_q4_q2
      replace h_q4 := W_w17.here
      replace o_x15 := own_wrote o_x15 W_w17 d_x15_q4
      replace hB := below_wrote hB hB.size W_w17 g_q4.le
      clear W_w17
      refine wpList_nil ?_
      replace s1 : a14.eval (.tmp 1) = .pointer (some ⟨q2, 0, none⟩) := ((p14.ne rfl).trans (p13.ne rfl)).trans s1
      replace s2 : a14.eval (.tmp 2) = .pointer (some ⟨q4, 0, none⟩) := ((p14.ne rfl).trans (p13.ne rfl)).trans s2
      refine hK14 _ _ ?_
      clear hK14
      refine wp_ret ?_
      try dsimp only [Exit.then, Exit.inBlock]
      refine ret1 hs Try.results11 (res_cell s2 h_q4 Try.isAgg28 Try.sizeOf28 rfl) ?_
      refine ⟨_, rfl, ?_, hB⟩
      rw [fillR_no (.inr (by omega))]
      exact ⟨_, _, _, rfl, rfl, o_x15⟩
    · replace s15 := s15.trans (congrArg Value.bool (decide_eq_false h2))
      replace s15 : a12.eval (.tmp 15) = .bool false := s15
      refine c_false s15 ?_
      refine wp_skip ?_
      refine hK6 _ _ ?_
      clear hK6
      refine wp_seq_k fun K18 hK18 => ?_
      refine wp_region_lit ?_
      refine q_val rfl rfl ?_
      refine g_assign rfl rfl ?_
      intro a13 p13
      have s3 : a13.eval (.tmp 3) = .int .i64 0 := p13.at hs (by decide)
      replace hs := p13.st hs
      refine wpList_nil ?_
      replace s1 : a13.eval (.tmp 1) = .pointer (some ⟨q2, 0, none⟩) := (p13.ne rfl).trans s1
      replace s2 : a13.eval (.tmp 2) = .pointer (some ⟨q4, 0, none⟩) := (p13.ne rfl).trans s2
      refine hK18 _ _ ?_
      clear hK18
      refine wp_seq_k fun K19 hK19 => ?_
      refine wp_block ?_
      refine wp_loop (fun a wr => ∃ (k : Nat), (St 37 a) ∧ (a.eval (.tmp 1) = .pointer (some ⟨q2, 0, none⟩)) ∧ (a.eval (.tmp 2) = .pointer (some ⟨q4, 0, none⟩)) ∧ (a.eval (.tmp 3) = .int .i64 ((k : Nat) : Int)) ∧ (w9 = wr) ∧ (k ≤ fillN (rest).length)) (fun a _ => 24 - (intOf (a.eval (.tmp 3))).toNat) (⟨0, hs, s1, s2, s3, rfl, Nat.zero_le _⟩) ?_
      intro a14 w' hI
      obtain ⟨k, hs, s1, s2, s3, rfl, hk⟩ := hI
      have mu0 := s3
      refine wp_seq_k fun K21 hK21 => ?_
      refine wp_seq_k fun K22 hK22 => ?_
      have hk24 : fillN (rest).length < 24 := Nat.mod_lt _ (by decide)
      refine wp_region_lit ?_
      refine q_val rfl rfl ?_
      refine g_field (r := 2) rfl s1 Try.underlying28 rfl (fun w => Try.sizeOf9 w) rfl rfl ?_
      intro a15 p15
      have s18 : a15.eval (.tmp 18) = .pointer (some ⟨q2, 2, none⟩) := p15.at hs (by decide)
      replace hs := p15.st hs
      refine q_val rfl rfl ?_
      refine g_load rfl s18 Try.isAgg9 (box_cell h_q2 rfl) ?_
      intro a16 p16
      have s19 : a16.eval (.tmp 19) = .string ⟨(rest).toArray⟩ := p16.at hs (by decide)
      replace hs := p16.st hs
      refine q_val rfl rfl ?_
      refine g_lenS rfl Try.underlying9 s19 ?_
      intro a17 p17
      have s20 : a17.eval (.tmp 20) = .int .i64 (((rest).length : Nat) : Int) := p17.at hs (by decide)
      replace hs := p17.st hs
      refine q_val rfl rfl ?_
      refine g_add (r := (((rest).length + 4 : Nat) : Int)) rfl s20 rfl (by omega) (by omega) ?_
      intro a18 p18
      have s21 : a18.eval (.tmp 21) = .int .i64 (((rest).length + 4 : Nat) : Int) := p18.at hs (by decide)
      replace hs := p18.st hs
      refine q_val rfl rfl ?_
      refine g_move rfl (((p18.ne rfl).trans ((p17.ne rfl).trans ((p16.ne rfl).trans (p15.ne rfl)))).trans s3) ?_
      intro a19 p19
      have s22 : a19.eval (.tmp 22) = .int .i64 ((k : Nat) : Int) := p19.at hs (by decide)
      replace hs := p19.st hs
      refine q_val rfl rfl ?_
      refine g_add (r := (((rest).length + 4 : Nat) : Int) + ((k : Nat) : Int)) rfl ((p19.ne rfl).trans s21) s22 (by omega) (by omega) ?_
      intro a20 p20
      have s23 : a20.eval (.tmp 23) = .int .i64 ((((rest).length + 4 : Nat) : Int) + ((k : Nat) : Int)) := p20.at hs (by decide)
      replace hs := p20.st hs
      refine q_val rfl rfl ?_
      refine g_rem (N := (rest).length + 4 + k) (M := 24) rfl s23 rfl (by omega) rfl (by decide) (by decide) ?_
      intro a21 p21
      have s24 : a21.eval (.tmp 24) = .int .i64 ((((rest).length + 4 + k) % 24 : Nat) : Int) := p21.at hs (by decide)
      replace hs := p21.st hs
      refine q_val rfl rfl ?_
      refine g_neq rfl s24 rfl ?_
      intro a22 p22
      have s25 : a22.eval (.tmp 25) = .bool (!decide (((((rest).length + 4 + k) % 24 : Nat) : Int) = 0)) := p22.at hs (by decide)
      replace hs := p22.st hs
      refine wpList_nil ?_
      replace s1 : a22.eval (.tmp 1) = .pointer (some ⟨q2, 0, none⟩) := ((p22.ne rfl).trans ((p21.ne rfl).trans ((p20.ne rfl).trans ((p19.ne rfl).trans ((p18.ne rfl).trans ((p17.ne rfl).trans ((p16.ne rfl).trans (p15.ne rfl)))))))).trans s1
      replace s2 : a22.eval (.tmp 2) = .pointer (some ⟨q4, 0, none⟩) := ((p22.ne rfl).trans ((p21.ne rfl).trans ((p20.ne rfl).trans ((p19.ne rfl).trans ((p18.ne rfl).trans ((p17.ne rfl).trans ((p16.ne rfl).trans (p15.ne rfl)))))))).trans s2
      replace s3 : a22.eval (.tmp 3) = .int .i64 ((k : Nat) : Int) := ((p22.ne rfl).trans ((p21.ne rfl).trans ((p20.ne rfl).trans ((p19.ne rfl).trans ((p18.ne rfl).trans ((p17.ne rfl).trans ((p16.ne rfl).trans (p15.ne rfl)))))))).trans s3
      refine hK22 _ _ ?_
      clear hK22
      by_cases hc23 : ((((rest).length + 4 + k) % 24 : Nat) : Int) = 0
      · replace s25 := s25.trans (congrArg (fun b => Value.bool (!b)) (decide_eq_true hc23))
        replace s25 : a22.eval (.tmp 25) = .bool false := s25
        refine c_false s25 ?_
        refine wp_exit ?_
        refine hK19 _ _ ?_
        clear hK19
        refine wp_seq_k fun K24 hK24 => ?_
        have hfk : k = fillN (rest).length := by unfold fillN at hk ⊢; omega
        refine wp_drawn (n := 37) [7, 10] [9] [] (fun k_ v_ wx => match k_ with | 0 => v_ = .agg #[.int .i64 ch, .int .i64 ct, .string ⟨(rest).toArray⟩, .slice B ds.length dp] | 1 => v_ = .int .i64 ((k : Nat) : Int) | 2 => v_ = .string ⟨(List.replicate k 0).toArray⟩ | 3 => v_ = .agg #[.int .i64 15, .int .i64 0, .string ⟨(List.replicate k 0).toArray⟩] | 4 => ∃ (A26 : Option Addr) (c26 : Nat), v_ = .tuple #[.agg #[.int .i64 ch, .int .i64 ct, .string ⟨((packR ch ct rest ds (⟨15, 0, List.replicate k 0⟩ : EPacket)).1.1).toArray⟩, .slice A26 ((packR ch ct rest ds (⟨15, 0, List.replicate k 0⟩ : EPacket)).1.2.length) c26], .bool ((packR ch ct rest ds (⟨15, 0, List.replicate k 0⟩ : EPacket)).2)] ∧ ((wx).ownsRow w9.heap.size 3 1 (.slice A26 ((packR ch ct rest ds (⟨15, 0, List.replicate k 0⟩ : EPacket)).1.2.length) c26) ((packR ch ct rest ds (⟨15, 0, List.replicate k 0⟩ : EPacket)).1.2.length) (((packR ch ct rest ds (⟨15, 0, List.replicate k 0⟩ : EPacket)).1.2).flatMap cI)) | 5 => ∃ (A_r27 : Option Addr) (c_r27 : Nat), v_ = .tuple #[.agg #[.int .i64 ch, .int .i64 ct, .string ⟨((packR ch ct rest ds (⟨15, 0, List.replicate k 0⟩ : EPacket)).1.1).toArray⟩, .slice A_r27 ((packR ch ct rest ds (⟨15, 0, List.replicate k 0⟩ : EPacket)).1.2.length) c_r27], .bool ((packR ch ct rest ds (⟨15, 0, List.replicate k 0⟩ : EPacket)).2)] ∧ ((wx).ownsRow w9.heap.size 3 1 (.slice A_r27 ((packR ch ct rest ds (⟨15, 0, List.replicate k 0⟩ : EPacket)).1.2.length) c_r27) ((packR ch ct rest ds (⟨15, 0, List.replicate k 0⟩ : EPacket)).1.2.length) (((packR ch ct rest ds (⟨15, 0, List.replicate k 0⟩ : EPacket)).1.2).flatMap cI)) | 6 => ∃ (A_r28 : Option Addr) (c_r28 : Nat), v_ = .agg #[.int .i64 ch, .int .i64 ct, .string ⟨((packR ch ct rest ds (⟨15, 0, List.replicate k 0⟩ : EPacket)).1.1).toArray⟩, .slice A_r28 ((packR ch ct rest ds (⟨15, 0, List.replicate k 0⟩ : EPacket)).1.2.length) c_r28] ∧ ((wx).ownsRow w9.heap.size 3 1 (.slice A_r28 ((packR ch ct rest ds (⟨15, 0, List.replicate k 0⟩ : EPacket)).1.2.length) c_r28) ((packR ch ct rest ds (⟨15, 0, List.replicate k 0⟩ : EPacket)).1.2.length) (((packR ch ct rest ds (⟨15, 0, List.replicate k 0⟩ : EPacket)).1.2).flatMap cI)) | 7 => v_ = .bool ((packR ch ct rest ds (⟨15, 0, List.replicate k 0⟩ : EPacket)).2) | 8 => ∃ q29, v_ = .pointer (some ⟨q29, 0, none⟩) ∧ w9.heap.size ≤ q29 ∧ wx.heap[q29]? = some (.cells #[.int .i64 0, .int .i64 0, .string ⟨#[]⟩, .slice none 0 0] 28 (0, 0)) | 10 => v_ = .bool ((packR ch ct rest ds (⟨15, 0, List.replicate k 0⟩ : EPacket)).2) | _ => True) (by kernel_rfl) (by kernel_rfl) (by kernel_rfl) (by kernel_rfl) hs.size ?_ ?_ ?_
        · intro i v wa wb hb hr
          rcases i with _ | _ | _ | _ | _ | _ | _ | _ | _ | _ | _ | i
          · exact hr
          · exact hr
          · exact hr
          · exact hr
          · obtain ⟨A26, c26, hr, o_x26⟩ := hr; exact ⟨A26, c26, hr, own_below o_x26 hb⟩
          · obtain ⟨A_r27, c_r27, hr, o_r27⟩ := hr; exact ⟨A_r27, c_r27, hr, own_below o_r27 hb⟩
          · obtain ⟨A_r28, c_r28, hr, o_r28⟩ := hr; exact ⟨A_r28, c_r28, hr, own_below o_r28 hb⟩
          · exact hr
          · obtain ⟨q29, hr, hg, hh⟩ := hr; exact ⟨q29, hr, hg, keep_below hh hb⟩
          · trivial
          · exact hr
          · trivial
        · refine d_step rfl rfl ?_ (d_step rfl rfl ?_ (d_step rfl rfl ?_ (d_step rfl rfl ?_ (d_step rfl rfl ?_ (d_step rfl rfl ?_ (d_step rfl rfl ?_ (d_late rfl rfl ?_ (d_step rfl rfl ?_ (d_chain rfl (d_late rfl rfl ?_ (d_nil)))))))))))
          · intro xv_ wx ρ hρ hwx hd K hK
            have e1 : ρ (.tmp 1) = .pointer (some ⟨q2, 0, none⟩) := (hρ.inn 1 rfl).trans s1
            have h_q2 := keep_below h_q2 hwx
            refine g_loadB rfl e1 Try.isAgg28 Try.sizeOf28 rfl h_q2 ?_
            exact hK _ _ (Below.refl _ _) rfl
          · intro xv_ wx ρ hρ hwx hd K hK
            have e3 : ρ (.tmp 3) = .int .i64 ((k : Nat) : Int) := (hρ.inn 3 rfl).trans s3
            refine g_move rfl e3 ?_
            exact hK _ _ (Below.refl _ _) rfl
          · intro xv_ wx ρ hρ hwx hd K hK
            obtain r1 : xv_ 1 = .int .i64 ((k : Nat) : Int) := hd 1 rfl
            have e30 : ρ (.tmp 30) = .int .i64 ((k : Nat) : Int) := (hρ.out 1 30 rfl (by rw [hs.size]; decide) rfl).trans r1
            refine g_call rfl (hρ.fn _) Try.call36 (arr2 (hρ.cst _) e30) ?_
            refine (repeat0_any k _ (by omega)).mono ?_
            rintro e wy ⟨rfl, hb25⟩
            exact ⟨_, rfl, hK _ _ hb25 rfl⟩
          · intro xv_ wx ρ hρ hwx hd K hK
            obtain r2 : xv_ 2 = .string ⟨(List.replicate k 0).toArray⟩ := hd 2 rfl
            have e31 : ρ (.tmp 31) = .string ⟨(List.replicate k 0).toArray⟩ := (hρ.out 2 31 rfl (by rw [hs.size]; decide) rfl).trans r2
            refine g_build (cells := #[.int .i64 15, .int .i64 0, .string ⟨(List.replicate k 0).toArray⟩]) rfl (arrB2 ((hρ.cst _)) e31) (by kernel_rfl) ?_
            exact hK _ _ (Below.refl _ _) rfl
          · intro xv_ wx ρ hρ hwx hd K hK
            obtain r0 : xv_ 0 = .agg #[.int .i64 ch, .int .i64 ct, .string ⟨(rest).toArray⟩, .slice B ds.length dp] := hd 0 rfl
            have e29 : ρ (.tmp 29) = .agg #[.int .i64 ch, .int .i64 ct, .string ⟨(rest).toArray⟩, .slice B ds.length dp] := (hρ.out 0 29 rfl (by rw [hs.size]; decide) rfl).trans r0
            obtain r3 : xv_ 3 = .agg #[.int .i64 15, .int .i64 0, .string ⟨(List.replicate k 0).toArray⟩] := hd 3 rfl
            have e32 : ρ (.tmp 32) = .agg #[.int .i64 15, .int .i64 0, .string ⟨(List.replicate k 0).toArray⟩] := (hρ.out 3 32 rfl (by rw [hs.size]; decide) rfl).trans r3
            refine g_call rfl (hρ.fn _) Try.call9 (arr2 e29 e32) ?_
            refine (packPacket_any _ _ _ _ _ _ ds (⟨15, 0, List.replicate k 0⟩ : EPacket) _ hx rfl (by omega) hnn_d ((hr_d.below hB).below hwx) (by unfold Txt; simp only [List.length_replicate]; omega)).mono ?_
            rintro e wy ⟨_, rfl, ⟨_, rfl, A26, _, c26, rfl, rfl, o_x26⟩, hb26⟩
            exact ⟨_, rfl, hK _ _ hb26 ⟨A26, c26, rfl, own_base o_x26 hwx.size⟩⟩
          · intro xv_ wx ρ hρ hwx hd K hK
            obtain ⟨A26, c26, r4, o_x26⟩ : ∃ (A26 : Option Addr) (c26 : Nat), xv_ 4 = .tuple #[.agg #[.int .i64 ch, .int .i64 ct, .string ⟨((packR ch ct rest ds (⟨15, 0, List.replicate k 0⟩ : EPacket)).1.1).toArray⟩, .slice A26 ((packR ch ct rest ds (⟨15, 0, List.replicate k 0⟩ : EPacket)).1.2.length) c26], .bool ((packR ch ct rest ds (⟨15, 0, List.replicate k 0⟩ : EPacket)).2)] ∧ ((wx).ownsRow w9.heap.size 3 1 (.slice A26 ((packR ch ct rest ds (⟨15, 0, List.replicate k 0⟩ : EPacket)).1.2.length) c26) ((packR ch ct rest ds (⟨15, 0, List.replicate k 0⟩ : EPacket)).1.2.length) (((packR ch ct rest ds (⟨15, 0, List.replicate k 0⟩ : EPacket)).1.2).flatMap cI)) := hd 4 rfl
            have e33 : ρ (.tmp 33) = .tuple #[.agg #[.int .i64 ch, .int .i64 ct, .string ⟨((packR ch ct rest ds (⟨15, 0, List.replicate k 0⟩ : EPacket)).1.1).toArray⟩, .slice A26 ((packR ch ct rest ds (⟨15, 0, List.replicate k 0⟩ : EPacket)).1.2.length) c26], .bool ((packR ch ct rest ds (⟨15, 0, List.replicate k 0⟩ : EPacket)).2)] := (hρ.out 4 33 rfl (by rw [hs.size]; decide) rfl).trans r4
            refine g_move rfl e33 ?_
            exact hK _ _ (Below.refl _ _) ⟨A26, c26, rfl, o_x26⟩
          · intro xv_ wx ρ hρ hwx hd K hK
            obtain ⟨A_r27, c_r27, r5, o_r27⟩ : ∃ (A_r27 : Option Addr) (c_r27 : Nat), xv_ 5 = .tuple #[.agg #[.int .i64 ch, .int .i64 ct, .string ⟨((packR ch ct rest ds (⟨15, 0, List.replicate k 0⟩ : EPacket)).1.1).toArray⟩, .slice A_r27 ((packR ch ct rest ds (⟨15, 0, List.replicate k 0⟩ : EPacket)).1.2.length) c_r27], .bool ((packR ch ct rest ds (⟨15, 0, List.replicate k 0⟩ : EPacket)).2)] ∧ ((wx).ownsRow w9.heap.size 3 1 (.slice A_r27 ((packR ch ct rest ds (⟨15, 0, List.replicate k 0⟩ : EPacket)).1.2.length) c_r27) ((packR ch ct rest ds (⟨15, 0, List.replicate k 0⟩ : EPacket)).1.2.length) (((packR ch ct rest ds (⟨15, 0, List.replicate k 0⟩ : EPacket)).1.2).flatMap cI)) := hd 5 rfl
            have e28 : ρ (.tmp 28) = .tuple #[.agg #[.int .i64 ch, .int .i64 ct, .string ⟨((packR ch ct rest ds (⟨15, 0, List.replicate k 0⟩ : EPacket)).1.1).toArray⟩, .slice A_r27 ((packR ch ct rest ds (⟨15, 0, List.replicate k 0⟩ : EPacket)).1.2.length) c_r27], .bool ((packR ch ct rest ds (⟨15, 0, List.replicate k 0⟩ : EPacket)).2)] := (hρ.out 5 28 rfl (by rw [hs.size]; decide) rfl).trans r5
            refine g_extract rfl e28 rfl ?_
            exact hK _ _ (Below.refl _ _) ⟨A_r27, c_r27, rfl, o_r27⟩
          · intro xv_ wx ρ hρ hwx hd
            obtain ⟨A_r27, c_r27, r5, o_r27⟩ : ∃ (A_r27 : Option Addr) (c_r27 : Nat), xv_ 5 = .tuple #[.agg #[.int .i64 ch, .int .i64 ct, .string ⟨((packR ch ct rest ds (⟨15, 0, List.replicate k 0⟩ : EPacket)).1.1).toArray⟩, .slice A_r27 ((packR ch ct rest ds (⟨15, 0, List.replicate k 0⟩ : EPacket)).1.2.length) c_r27], .bool ((packR ch ct rest ds (⟨15, 0, List.replicate k 0⟩ : EPacket)).2)] ∧ ((wx).ownsRow w9.heap.size 3 1 (.slice A_r27 ((packR ch ct rest ds (⟨15, 0, List.replicate k 0⟩ : EPacket)).1.2.length) c_r27) ((packR ch ct rest ds (⟨15, 0, List.replicate k 0⟩ : EPacket)).1.2.length) (((packR ch ct rest ds (⟨15, 0, List.replicate k 0⟩ : EPacket)).1.2).flatMap cI)) := hd 5 rfl rfl
            have e28 : ρ (.tmp 28) = .tuple #[.agg #[.int .i64 ch, .int .i64 ct, .string ⟨((packR ch ct rest ds (⟨15, 0, List.replicate k 0⟩ : EPacket)).1.1).toArray⟩, .slice A_r27 ((packR ch ct rest ds (⟨15, 0, List.replicate k 0⟩ : EPacket)).1.2.length) c_r27], .bool ((packR ch ct rest ds (⟨15, 0, List.replicate k 0⟩ : EPacket)).2)] := (hρ.out 5 28 rfl (by rw [hs.size]; decide) rfl).trans r5
            exact ⟨_, fun w' => l_extract rfl e28 rfl, rfl⟩
          · intro xv_ wx ρ hρ hwx hd K hK
            refine g_alloc rfl Try.zeroValue28 rfl ?_
            intro q w' N
            exact hK _ _ N.below ⟨q, rfl, Nat.le_trans hwx.size N.lo, N.here⟩
          · intro xv_ wx ρ hρ hwx hd
            obtain r7 : xv_ 7 = .bool ((packR ch ct rest ds (⟨15, 0, List.replicate k 0⟩ : EPacket)).2) := hd 7 rfl rfl
            have e35 : ρ (.tmp 35) = .bool ((packR ch ct rest ds (⟨15, 0, List.replicate k 0⟩ : EPacket)).2) := (hρ.out 7 35 rfl (by rw [hs.size]; decide) rfl).trans r7
            exact ⟨_, fun w' => l_assign rfl e35, rfl⟩
        · intro x0_ w30 hb_w30 hr0
          obtain r0 : x0_ 0 = .agg #[.int .i64 ch, .int .i64 ct, .string ⟨(rest).toArray⟩, .slice B ds.length dp] := hr0 0 (by decide) rfl rfl
          obtain r1 : x0_ 1 = .int .i64 ((k : Nat) : Int) := hr0 1 (by decide) rfl rfl
          obtain r2 : x0_ 2 = .string ⟨(List.replicate k 0).toArray⟩ := hr0 2 (by decide) rfl rfl
          obtain r3 : x0_ 3 = .agg #[.int .i64 15, .int .i64 0, .string ⟨(List.replicate k 0).toArray⟩] := hr0 3 (by decide) rfl rfl
          obtain ⟨A26, c26, r4, o_x26⟩ : ∃ (A26 : Option Addr) (c26 : Nat), x0_ 4 = .tuple #[.agg #[.int .i64 ch, .int .i64 ct, .string ⟨((packR ch ct rest ds (⟨15, 0, List.replicate k 0⟩ : EPacket)).1.1).toArray⟩, .slice A26 ((packR ch ct rest ds (⟨15, 0, List.replicate k 0⟩ : EPacket)).1.2.length) c26], .bool ((packR ch ct rest ds (⟨15, 0, List.replicate k 0⟩ : EPacket)).2)] ∧ ((w30).ownsRow w9.heap.size 3 1 (.slice A26 ((packR ch ct rest ds (⟨15, 0, List.replicate k 0⟩ : EPacket)).1.2.length) c26) ((packR ch ct rest ds (⟨15, 0, List.replicate k 0⟩ : EPacket)).1.2.length) (((packR ch ct rest ds (⟨15, 0, List.replicate k 0⟩ : EPacket)).1.2).flatMap cI)) := hr0 4 (by decide) rfl rfl
          obtain ⟨A_r27, c_r27, r5, o_r27⟩ : ∃ (A_r27 : Option Addr) (c_r27 : Nat), x0_ 5 = .tuple #[.agg #[.int .i64 ch, .int .i64 ct, .string ⟨((packR ch ct rest ds (⟨15, 0, List.replicate k 0⟩ : EPacket)).1.1).toArray⟩, .slice A_r27 ((packR ch ct rest ds (⟨15, 0, List.replicate k 0⟩ : EPacket)).1.2.length) c_r27], .bool ((packR ch ct rest ds (⟨15, 0, List.replicate k 0⟩ : EPacket)).2)] ∧ ((w30).ownsRow w9.heap.size 3 1 (.slice A_r27 ((packR ch ct rest ds (⟨15, 0, List.replicate k 0⟩ : EPacket)).1.2.length) c_r27) ((packR ch ct rest ds (⟨15, 0, List.replicate k 0⟩ : EPacket)).1.2.length) (((packR ch ct rest ds (⟨15, 0, List.replicate k 0⟩ : EPacket)).1.2).flatMap cI)) := hr0 5 (by decide) rfl rfl
          obtain ⟨A_r28, c_r28, r6, o_r28⟩ : ∃ (A_r28 : Option Addr) (c_r28 : Nat), x0_ 6 = .agg #[.int .i64 ch, .int .i64 ct, .string ⟨((packR ch ct rest ds (⟨15, 0, List.replicate k 0⟩ : EPacket)).1.1).toArray⟩, .slice A_r28 ((packR ch ct rest ds (⟨15, 0, List.replicate k 0⟩ : EPacket)).1.2.length) c_r28] ∧ ((w30).ownsRow w9.heap.size 3 1 (.slice A_r28 ((packR ch ct rest ds (⟨15, 0, List.replicate k 0⟩ : EPacket)).1.2.length) c_r28) ((packR ch ct rest ds (⟨15, 0, List.replicate k 0⟩ : EPacket)).1.2.length) (((packR ch ct rest ds (⟨15, 0, List.replicate k 0⟩ : EPacket)).1.2).flatMap cI)) := hr0 6 (by decide) rfl rfl
          obtain ⟨q29, r8, g0_q29, h_q29⟩ : ∃ q29, x0_ 8 = .pointer (some ⟨q29, 0, none⟩) ∧ w9.heap.size ≤ q29 ∧ w30.heap[q29]? = some (.cells #[.int .i64 0, .int .i64 0, .string ⟨#[]⟩, .slice none 0 0] 28 (0, 0)) := hr0 8 (by decide) rfl rfl
          clear hr0
          have d_r28_q2 := own_ne_box o_r28 (lt_of_block h_q2)
          have d_r28_q4 := own_ne_box o_r28 (lt_of_block h_q4)
          have g_r28 : ∀ b, (A_r28 : Option Addr).map (·.block) = some b → w.heap.size ≤ b := fun b h => Nat.le_trans hB.size (own_row o_r28 b h).1
          replace o_r28 := own_base (base := w.heap.size) o_r28 hB.size
          have n_q2_q29 : NeB q2 q29 := ⟨fun e => by have := lt_of_block h_q2; omega⟩
          have n_q29_q2 := n_q2_q29.symm
          have n_q4_q29 : NeB q4 q29 := ⟨fun e => by have := lt_of_block h_q4; omega⟩
          have n_q29_q4 := n_q4_q29.symm
          have g_q29 : GeB w.heap.size q29 := ⟨Nat.le_trans hB.size g0_q29⟩
          clear g0_q29
          have d_r28_q29 := own_ne_cells o_r28 h_q29 (by decide)
          replace h_q2 := keep_below h_q2 hb_w30
          replace h_q4 := keep_below h_q4 hb_w30
          replace hB := hB.trans (hb_w30.mono hB.size)
          clear hb_w30
          intro op_ ho_ xv_ ρ hρ qx_ ql_ qk_
          obtain rfl := Option.some.inj ho_
          clear ho_
          have e4 : ρ (.tmp 4) = .pointer (some ⟨q29, 0, none⟩) := (hρ.out 8 4 rfl (by rw [hs.size]; decide) rfl).trans ((qx_ 8 (by decide) rfl rfl).trans r8)
          have e34 : ρ (.tmp 34) = .agg #[.int .i64 ch, .int .i64 ct, .string ⟨((packR ch ct rest ds (⟨15, 0, List.replicate k 0⟩ : EPacket)).1.1).toArray⟩, .slice A_r28 ((packR ch ct rest ds (⟨15, 0, List.replicate k 0⟩ : EPacket)).1.2.length) c_r28] := (hρ.out 6 34 rfl (by rw [hs.size]; decide) rfl).trans ((qx_ 6 (by decide) rfl rfl).trans r6)
          refine g_storeB rfl e4 e34 Try.sizeOf28 rfl rfl h_q29 rfl ?_
          intro w31 W_w31
          replace h_q2 := keep_wrote h_q2 W_w31 n_q29_q2
          replace h_q4 := keep_wrote h_q4 W_w31 n_q29_q4
          replace h_q29 := W_w31.here
          replace o_r28 := own_wrote o_r28 W_w31 d_r28_q29
          replace hB := below_wrote hB hB.size W_w31 g_q29.le
          clear W_w31
          clear e34 e4
          clear hρ qx_ ql_ qk_
          intro xv_ a23 hρ hsz hdf qx_ ql_ qk_ qlk_
          replace s2 : a23.eval (.tmp 2) = .pointer (some ⟨q4, 0, none⟩) := (hρ.inn 2 rfl).trans s2
          have s4 : a23.eval (.tmp 4) = .pointer (some ⟨q29, 0, none⟩) := (hρ.out 8 4 rfl (by rw [hs.size]; decide)).trans ((qx_ 8 (by decide) rfl rfl).trans r8)
          replace hs : St 37 a23 := ⟨hsz.trans hs.size, hdf.trans hs.nodef⟩
          clear hρ hsz hdf qx_ ql_ qk_ qlk_
          refine hK24 _ _ ?_
          clear hK24
          refine wp_seq_k fun K32 hK32 => ?_
          refine wp_region_lit ?_
          refine q_val rfl rfl ?_
          refine g_loadB rfl s4 Try.isAgg28 Try.sizeOf28 rfl h_q29 ?_
          intro a24 p24
          have s36 : a24.eval (.tmp 36) = .agg #[.int .i64 ch, .int .i64 ct, .string ⟨((packR ch ct rest ds (⟨15, 0, List.replicate k 0⟩ : EPacket)).1.1).toArray⟩, .slice A_r28 ((packR ch ct rest ds (⟨15, 0, List.replicate k 0⟩ : EPacket)).1.2.length) c_r28] := p24.at hs (by decide)
          replace hs := p24.st hs
          refine q_eff rfl rfl ?_
          refine g_storeB rfl ((p24.ne rfl).trans s2) s36 Try.sizeOf28 rfl rfl h_q4 rfl ?_
          intro w33 W_w33
          replace h_q2 := keep_wrote h_q2 W_w33 n_q4_q2
          replace h_q4 := W_w33.here
          replace h_q29 := keep_wrote h_q29 W_w33 n_q4_q29
          replace o_r28 := own_wrote o_r28 W_w33 d_r28_q4
          replace hB := below_wrote hB hB.size W_w33 g_q4.le
          clear W_w33
          refine wpList_nil ?_
          replace s2 : a24.eval (.tmp 2) = .pointer (some ⟨q4, 0, none⟩) := (p24.ne rfl).trans s2
          refine hK32 _ _ ?_
          clear hK32
          refine wp_ret ?_
          try dsimp only [Exit.then, Exit.inBlock]
          refine ret1 hs Try.results11 (res_cell s2 h_q4 Try.isAgg28 Try.sizeOf28 rfl) ?_
          refine ⟨_, rfl, ?_, hB⟩
          rw [fillR_yes h1 (by omega) hfk]
          exact ⟨_, _, _, rfl, rfl, o_r28⟩
      · replace s25 := s25.trans (congrArg (fun b => Value.bool (!b)) (decide_eq_false hc23))
        replace s25 : a22.eval (.tmp 25) = .bool true := s25
        refine c_true s25 ?_
        refine wp_skip ?_
        refine hK21 _ _ ?_
        clear hK21
        refine wp_block ?_
        refine wp_region_lit ?_
        refine q_val rfl rfl ?_
        refine g_move rfl s3 ?_
        intro a23 p23
        have s26 : a23.eval (.tmp 26) = .int .i64 ((k : Nat) : Int) := p23.at hs (by decide)
        replace hs := p23.st hs
        refine q_val rfl rfl ?_
        refine g_add (r := ((k + 1 : Nat) : Int)) rfl s26 rfl (by omega) (by omega) ?_
        intro a24 p24
        have s27 : a24.eval (.tmp 27) = .int .i64 ((k + 1 : Nat) : Int) := p24.at hs (by decide)
        replace hs := p24.st hs
        refine q_val rfl rfl ?_
        refine g_assign rfl s27 ?_
        intro a25 p25
        have s3 : a25.eval (.tmp 3) = .int .i64 ((k + 1 : Nat) : Int) := p25.at hs (by decide)
        replace hs := p25.st hs
        refine wpList_nil ?_
        replace s1 : a25.eval (.tmp 1) = .pointer (some ⟨q2, 0, none⟩) := ((p25.ne rfl).trans ((p24.ne rfl).trans (p23.ne rfl))).trans s1
        replace s2 : a25.eval (.tmp 2) = .pointer (some ⟨q4, 0, none⟩) := ((p25.ne rfl).trans ((p24.ne rfl).trans (p23.ne rfl))).trans s2
        replace s25 : a25.eval (.tmp 25) = .bool true := ((p25.ne rfl).trans ((p24.ne rfl).trans (p23.ne rfl))).trans s25
        refine show _ ∧ _ from ⟨⟨k + 1, hs, s1, s2, s3, rfl, (by unfold fillN at hk ⊢; omega)⟩, ?_⟩
        show 24 - (intOf (a25.eval (.tmp 3))).toNat < 24 - (intOf (a14.eval (.tmp 3))).toNat
        rw [s3, mu0]
        simp only [intOf]
        omega
set_option maxRecDepth 100000 in
set_option maxHeartbeats 4000000 in
theorem sFillPacker_any (ch ct : Int) (rest : List UInt8) (B : Option Addr) (m dp : Nat) (ds : List Int) (w : World) (hx : rest.length ≤ 1048576) (hm : ds.length = m) (hbm : m ≤ 1048576) (hnn_d : B = none → m = 0 ∧ dp = 0) (hr_d : Rd w 1 B m (ds.flatMap cI)) :
    Calls Try.prog 18 #[.agg #[.int .i64 ch, .int .i64 ct, .string ⟨rest.toArray⟩, .slice B m dp]] w fun e w' => ∃ v, e = .returned v ∧ PRes w.heap.size w' ch ct (fillR ch ct rest ds) v ∧ Below w.heap.size w w' := by
  subst hm
  refine enter 37 Try.func18 rfl rfl (Nat.le_of_ble_eq_true rfl) ?_
  intro a0 hs hargs
  have s0 : a0.eval (.tmp 0) = .agg #[.int .i64 ch, .int .i64 ct, .string ⟨(rest).toArray⟩, .slice B ds.length dp] := hargs 0 _ rfl
  clear hargs
  have hB : Below w.heap.size w w := Below.refl _ _
  refine wp_seq_k fun K1 hK1 => ?_
  refine wp_region_lit ?_
  refine q_val rfl rfl ?_
  refine g_box rfl s0 rfl ?_
  intro q2 w3 N_q2
  have g_q2 : GeB w.heap.size q2 := ⟨Nat.le_trans hB.size N_q2.lo⟩
  replace hB := below_new hB hB.size N_q2
  have h_q2 := N_q2.here
  clear N_q2
  intro a1 p1
  have s1 : a1.eval (.tmp 1) = .pointer (some ⟨q2, 0, none⟩) := p1.at hs (by decide)
  replace hs := p1.st hs
  refine q_val rfl rfl ?_
  refine g_alloc rfl Try.zeroValue28 rfl ?_
  intro q4 w5 N_q4
  have n_q2_q4 := N_q4.ne ⟨lt_of_block h_q2⟩
  have n_q4_q2 := n_q2_q4.symm
  have g_q4 : GeB w.heap.size q4 := ⟨Nat.le_trans hB.size N_q4.lo⟩
  replace h_q2 := keep_below h_q2 N_q4.below
  replace hB := below_new hB hB.size N_q4
  have h_q4 := N_q4.here
  clear N_q4
  intro a2 p2
  have s2 : a2.eval (.tmp 2) = .pointer (some ⟨q4, 0, none⟩) := p2.at hs (by decide)
  replace hs := p2.st hs
  refine wpList_nil ?_
  replace s1 : a2.eval (.tmp 1) = .pointer (some ⟨q2, 0, none⟩) := (p2.ne rfl).trans s1
  refine hK1 _ _ ?_
  clear hK1
  refine wp_seq_k fun K6 hK6 => ?_
  refine wp_region_lit ?_
  refine q_val rfl rfl ?_
  refine g_field (r := 2) rfl s1 Try.underlying28 rfl (fun w => Try.sizeOf9 w) rfl rfl ?_
  intro a3 p3
  have s7 : a3.eval (.tmp 7) = .pointer (some ⟨q2, 2, none⟩) := p3.at hs (by decide)
  replace hs := p3.st hs
  refine q_val rfl rfl ?_
  refine g_load rfl s7 Try.isAgg9 (box_cell h_q2 rfl) ?_
  intro a4 p4
  have s8 : a4.eval (.tmp 8) = .string ⟨(rest).toArray⟩ := p4.at hs (by decide)
  replace hs := p4.st hs
  refine q_val rfl rfl ?_
  refine g_lenS rfl Try.underlying9 s8 ?_
  intro a5 p5
  have s9 : a5.eval (.tmp 9) = .int .i64 (((rest).length : Nat) : Int) := p5.at hs (by decide)
  replace hs := p5.st hs
  refine q_val rfl rfl ?_
  refine g_rem (N := (rest).length) (M := 24) rfl s9 rfl (by omega) rfl (by decide) (by decide) ?_
  intro a6 p6
  have s10 : a6.eval (.tmp 10) = .int .i64 ((((rest).length) % 24 : Nat) : Int) := p6.at hs (by decide)
  replace hs := p6.st hs
  refine q_val rfl rfl ?_
  refine g_assign rfl s10 ?_
  intro a7 p7
  have s3 : a7.eval (.tmp 3) = .int .i64 ((((rest).length) % 24 : Nat) : Int) := p7.at hs (by decide)
  replace hs := p7.st hs
  refine wpList_nil ?_
  replace s1 : a7.eval (.tmp 1) = .pointer (some ⟨q2, 0, none⟩) := ((p7.ne rfl).trans ((p6.ne rfl).trans ((p5.ne rfl).trans ((p4.ne rfl).trans (p3.ne rfl))))).trans s1
  replace s2 : a7.eval (.tmp 2) = .pointer (some ⟨q4, 0, none⟩) := ((p7.ne rfl).trans ((p6.ne rfl).trans ((p5.ne rfl).trans ((p4.ne rfl).trans (p3.ne rfl))))).trans s2
  refine hK6 _ _ ?_
  clear hK6
  refine wp_seq_k fun K7 hK7 => ?_
  refine wp_seq_k fun K8 hK8 => ?_
  refine wp_region_lit ?_
  refine q_val rfl rfl ?_
  refine g_loadB rfl s1 Try.isAgg28 Try.sizeOf28 rfl h_q2 ?_
  intro a8 p8
  have s11 : a8.eval (.tmp 11) = .agg #[.int .i64 ch, .int .i64 ct, .string ⟨(rest).toArray⟩, .slice B ds.length dp] := p8.at hs (by decide)
  replace hs := p8.st hs
  refine q_val rfl rfl ?_
  refine g_call rfl rfl Try.call40 (arr1 s11) ?_
  refine (sPackerOk_any _ _ _ _ _ _ ds _ (by unfold Txt; omega) rfl (by omega) (hr_d.below hB)).mono ?_
  rintro e w10 ⟨rfl, hb9⟩
  refine ⟨_, rfl, ?_⟩
  replace h_q2 := keep_below h_q2 hb9
  replace h_q4 := keep_below h_q4 hb9
  replace hB := hB.trans (hb9.mono hB.size)
  clear hb9
  intro a9 p9
  have s12 : a9.eval (.tmp 12) = .bool (pkrOk ch ct rest ds) := p9.at hs (by decide)
  replace hs := p9.st hs
  refine q_val rfl rfl ?_
  refine g_not rfl s12 ?_
  intro a10 p10
  have s13 : a10.eval (.tmp 13) = .bool (!(pkrOk ch ct rest ds)) := p10.at hs (by decide)
  replace hs := p10.st hs
  refine q_val rfl rfl ?_
  refine g_move rfl s13 ?_
  intro a11 p11
  have s14 : a11.eval (.tmp 14) = .bool (!(pkrOk ch ct rest ds)) := p11.at hs (by decide)
  replace hs := p11.st hs
  cases h1 : pkrOk ch ct rest ds
  · replace s12 := s12.trans (congrArg Value.bool h1)
    replace s12 : a9.eval (.tmp 12) = .bool false := s12
    replace s13 := s13.trans (congrArg (fun b => Value.bool (!b)) h1)
    replace s13 : a10.eval (.tmp 13) = .bool true := s13
    replace s14 := s14.trans (congrArg (fun b => Value.bool (!b)) h1)
    replace s14 : a11.eval (.tmp 14) = .bool true := s14
    refine q_skip rfl rfl s14 rfl ?_
    intro a12 p12
    have s15 : a12.eval (.tmp 15) = undef := p12.at hs (by decide)
    replace hs := p12.st hs
    refine q_skip rfl rfl ((p12.ne rfl).trans s14) rfl ?_
    intro a13 p13
    have s16 : a13.eval (.tmp 16) = undef := p13.at hs (by decide)
    replace hs := p13.st hs
    refine q_val rfl rfl ?_
    refine g_pick_t rfl (((p13.ne rfl).trans (p12.ne rfl)).trans s14) rfl ?_
    intro a14 p14
    have s17 : a14.eval (.tmp 17) = .bool true := p14.at hs (by decide)
    replace hs := p14.st hs
    refine wpList_nil ?_
    replace s1 : a14.eval (.tmp 1) = .pointer (some ⟨q2, 0, none⟩) := ((p14.ne rfl).trans ((p13.ne rfl).trans ((p12.ne rfl).trans ((p11.ne rfl).trans ((p10.ne rfl).trans ((p9.ne rfl).trans (p8.ne rfl))))))).trans s1
    replace s2 : a14.eval (.tmp 2) = .pointer (some ⟨q4, 0, none⟩) := ((p14.ne rfl).trans ((p13.ne rfl).trans ((p12.ne rfl).trans ((p11.ne rfl).trans ((p10.ne rfl).trans ((p9.ne rfl).trans (p8.ne rfl))))))).trans s2
    replace s3 : a14.eval (.tmp 3) = .int .i64 ((((rest).length) % 24 : Nat) : Int) := ((p14.ne rfl).trans ((p13.ne rfl).trans ((p12.ne rfl).trans ((p11.ne rfl).trans ((p10.ne rfl).trans ((p9.ne rfl).trans (p8.ne rfl))))))).trans s3
    refine hK8 _ _ ?_
    clear hK8
    refine c_true s17 ?_
    refine wp_seq_k fun K11 hK11 => ?_
    refine wp_region_lit ?_
    refine q_val rfl rfl ?_
    refine g_loadB rfl s1 Try.isAgg28 Try.sizeOf28 rfl h_q2 ?_
    intro a15 p15
    have s18 : a15.eval (.tmp 18) = .agg #[.int .i64 ch, .int .i64 ct, .string ⟨(rest).toArray⟩, .slice B ds.length dp] := p15.at hs (by decide)
    replace hs := p15.st hs
    refine q_val rfl rfl ?_
    refine g_call rfl rfl Try.call41 (arr1 s18) ?_
    refine (l03Copy_any _ _ _ _ _ _ ds _ (by unfold Txt; omega) rfl (by omega) hnn_d (hr_d.below hB)).mono ?_
    rintro e w13 ⟨A12, c12, rfl, o_x12, hb12⟩
    refine ⟨_, rfl, ?_⟩
    have d_x12_q2 := own_ne_box o_x12 (lt_of_block h_q2)
    have d_x12_q4 := own_ne_box o_x12 (lt_of_block h_q4)
    have g_x12 : ∀ b, (A12 : Option Addr).map (·.block) = some b → w.heap.size ≤ b := fun b h => Nat.le_trans hB.size (own_row o_x12 b h).1
    replace o_x12 := own_base (base := w.heap.size) o_x12 hB.size
    replace h_q2 := keep_below h_q2 hb12
    replace h_q4 := keep_below h_q4 hb12
    replace hB := hB.trans (hb12.mono hB.size)
    clear hb12
    intro a16 p16
    have s19 : a16.eval (.tmp 19) = .agg #[.int .i64 ch, .int .i64 ct, .string ⟨(rest).toArray⟩, .slice A12 ds.length c12] := p16.at hs (by decide)
    replace hs := p16.st hs
    refine q_eff rfl rfl ?_
    refine g_storeB rfl (((p16.ne rfl).trans (p15.ne rfl)).trans s2) s19 Try.sizeOf28 rfl rfl h_q4 rfl ?_
    intro w14 W_w14
    replace h_q2 := keep_wrote h_q2 W_w14 n_q4_q2
    replace h_q4 := W_w14.here
    replace o_x12 := own_wrote o_x12 W_w14 d_x12_q4
    replace hB := below_wrote hB hB.size W_w14 g_q4.le
    clear W_w14
    refine wpList_nil ?_
    replace s1 : a16.eval (.tmp 1) = .pointer (some ⟨q2, 0, none⟩) := ((p16.ne rfl).trans (p15.ne rfl)).trans s1
    replace s2 : a16.eval (.tmp 2) = .pointer (some ⟨q4, 0, none⟩) := ((p16.ne rfl).trans (p15.ne rfl)).trans s2
    replace s3 : a16.eval (.tmp 3) = .int .i64 ((((rest).length) % 24 : Nat) : Int) := ((p16.ne rfl).trans (p15.ne rfl)).trans s3
    refine hK11 _ _ ?_
    clear hK11
    refine wp_ret ?_
    try dsimp only [Exit.then, Exit.inBlock]
    refine ret1 hs Try.results18 (res_cell s2 h_q4 Try.isAgg28 Try.sizeOf28 rfl) ?_
    refine ⟨_, rfl, ?_, hB⟩
    rw [fillR_no (.inl h1)]
    exact ⟨_, _, _, rfl, rfl, o_x12⟩
  · replace s12 := s12.trans (congrArg Value.bool h1)
    replace s12 : a9.eval (.tmp 12) = .bool true := s12
    replace s13 := s13.trans (congrArg (fun b => Value.bool (!b)) h1)
    replace s13 : a10.eval (.tmp 13) = .bool false := s13
    replace s14 := s14.trans (congrArg (fun b => Value.bool (!b)) h1)
    replace s14 : a11.eval (.tmp 14) = .bool false := s14
    refine q_take rfl rfl s14 rfl ?_
    refine g_move rfl (((p11.ne rfl).trans ((p10.ne rfl).trans ((p9.ne rfl).trans (p8.ne rfl)))).trans s3) ?_
    intro a12 p12
    have s15 : a12.eval (.tmp 15) = .int .i64 ((((rest).length) % 24 : Nat) : Int) := p12.at hs (by decide)
    replace hs := p12.st hs
    refine q_take rfl rfl ((p12.ne rfl).trans s14) rfl ?_
    refine g_eql rfl s15 rfl ?_
    intro a13 p13
    have s16 : a13.eval (.tmp 16) = .bool (decide (((((rest).length) % 24 : Nat) : Int) = 0)) := p13.at hs (by decide)
    replace hs := p13.st hs
    refine q_val rfl rfl ?_
    refine g_pick_f rfl (((p13.ne rfl).trans (p12.ne rfl)).trans s14) s16 ?_
    intro a14 p14
    have s17 : a14.eval (.tmp 17) = .bool (decide (((((rest).length) % 24 : Nat) : Int) = 0)) := p14.at hs (by decide)
    replace hs := p14.st hs
    refine wpList_nil ?_
    replace s1 : a14.eval (.tmp 1) = .pointer (some ⟨q2, 0, none⟩) := ((p14.ne rfl).trans ((p13.ne rfl).trans ((p12.ne rfl).trans ((p11.ne rfl).trans ((p10.ne rfl).trans ((p9.ne rfl).trans (p8.ne rfl))))))).trans s1
    replace s2 : a14.eval (.tmp 2) = .pointer (some ⟨q4, 0, none⟩) := ((p14.ne rfl).trans ((p13.ne rfl).trans ((p12.ne rfl).trans ((p11.ne rfl).trans ((p10.ne rfl).trans ((p9.ne rfl).trans (p8.ne rfl))))))).trans s2
    replace s3 : a14.eval (.tmp 3) = .int .i64 ((((rest).length) % 24 : Nat) : Int) := ((p14.ne rfl).trans ((p13.ne rfl).trans ((p12.ne rfl).trans ((p11.ne rfl).trans ((p10.ne rfl).trans ((p9.ne rfl).trans (p8.ne rfl))))))).trans s3
    refine hK8 _ _ ?_
    clear hK8
    by_cases h2 : ((((rest).length) % 24 : Nat) : Int) = 0
    · replace s17 := s17.trans (congrArg Value.bool (decide_eq_true h2))
      replace s17 : a14.eval (.tmp 17) = .bool true := s17
      refine c_true s17 ?_
      refine wp_seq_k fun K15 hK15 => ?_
      refine wp_region_lit ?_
      refine q_val rfl rfl ?_
      refine g_loadB rfl s1 Try.isAgg28 Try.sizeOf28 rfl h_q2 ?_
      intro a15 p15
      have s18 : a15.eval (.tmp 18) = .agg #[.int .i64 ch, .int .i64 ct, .string ⟨(rest).toArray⟩, .slice B ds.length dp] := p15.at hs (by decide)
      replace hs := p15.st hs
      refine q_val rfl rfl ?_
      refine g_call rfl rfl Try.call41 (arr1 s18) ?_
      refine (l03Copy_any _ _ _ _ _ _ ds _ (by unfold Txt; omega) rfl (by omega) hnn_d (hr_d.below hB)).mono ?_
      rintro e w17 ⟨A16, c16, rfl, o_x16, hb16⟩
      refine ⟨_, rfl, ?_⟩
      have d_x16_q2 := own_ne_box o_x16 (lt_of_block h_q2)
      have d_x16_q4 := own_ne_box o_x16 (lt_of_block h_q4)
      have g_x16 : ∀ b, (A16 : Option Addr).map (·.block) = some b → w.heap.size ≤ b := fun b h => Nat.le_trans hB.size (own_row o_x16 b h).1
      replace o_x16 := own_base (base := w.heap.size) o_x16 hB.size
      replace h_q2 := keep_below h_q2 hb16
      replace h_q4 := keep_below h_q4 hb16
      replace hB := hB.trans (hb16.mono hB.size)
      clear hb16
      intro a16 p16
      have s19 : a16.eval (.tmp 19) = .agg #[.int .i64 ch, .int .i64 ct, .string ⟨(rest).toArray⟩, .slice A16 ds.length c16] := p16.at hs (by decide)
      replace hs := p16.st hs
      refine q_eff rfl rfl ?_
      refine g_storeB rfl (((p16.ne rfl).trans (p15.ne rfl)).trans s2) s19 Try.sizeOf28 rfl rfl h_q4 rfl ?_
      intro w18 W_w18
      replace h_q2 := keep_wrote h_q2 W_w18 n_q4_q2
      replace h_q4 := W_w18.here
      replace o_x16 := own_wrote o_x16 W_w18 d_x16_q4
      replace hB := below_wrote hB hB.size W_w18 g_q4.le
      clear W_w18
      refine wpList_nil ?_
      replace s1 : a16.eval (.tmp 1) = .pointer (some ⟨q2, 0, none⟩) := ((p16.ne rfl).trans (p15.ne rfl)).trans s1
      replace s2 : a16.eval (.tmp 2) = .pointer (some ⟨q4, 0, none⟩) := ((p16.ne rfl).trans (p15.ne rfl)).trans s2
      replace s3 : a16.eval (.tmp 3) = .int .i64 ((((rest).length) % 24 : Nat) : Int) := ((p16.ne rfl).trans (p15.ne rfl)).trans s3
      refine hK15 _ _ ?_
      clear hK15
      refine wp_ret ?_
      try dsimp only [Exit.then, Exit.inBlock]
      refine ret1 hs Try.results18 (res_cell s2 h_q4 Try.isAgg28 Try.sizeOf28 rfl) ?_
      refine ⟨_, rfl, ?_, hB⟩
      rw [fillR_no (.inr (by omega))]
      exact ⟨_, _, _, rfl, rfl, o_x16⟩
    · replace s17 := s17.trans (congrArg Value.bool (decide_eq_false h2))
      replace s17 : a14.eval (.tmp 17) = .bool false := s17
      refine c_false s17 ?_
      refine wp_skip ?_
      refine hK7 _ _ ?_
      clear hK7
      refine wp_seq_k fun K19 hK19 => ?_
      refine wp_region_lit ?_
      refine q_val rfl rfl ?_
      refine g_move rfl s3 ?_
      intro a15 p15
      have s20 : a15.eval (.tmp 20) = .int .i64 ((((rest).length) % 24 : Nat) : Int) := p15.at hs (by decide)
      replace hs := p15.st hs
      refine q_val rfl rfl ?_
      refine g_sub (r := 24 - ((((rest).length) % 24 : Nat) : Int)) rfl rfl s20 (by omega) (by omega) ?_
      intro a16 p16
      have s21 : a16.eval (.tmp 21) = .int .i64 (24 - ((((rest).length) % 24 : Nat) : Int)) := p16.at hs (by decide)
      replace hs := p16.st hs
      refine q_val rfl rfl ?_
      refine g_assign rfl s21 ?_
      intro a17 p17
      have s4 : a17.eval (.tmp 4) = .int .i64 (24 - ((((rest).length) % 24 : Nat) : Int)) := p17.at hs (by decide)
      replace hs := p17.st hs
      refine wpList_nil ?_
      replace s1 : a17.eval (.tmp 1) = .pointer (some ⟨q2, 0, none⟩) := ((p17.ne rfl).trans ((p16.ne rfl).trans (p15.ne rfl))).trans s1
      replace s2 : a17.eval (.tmp 2) = .pointer (some ⟨q4, 0, none⟩) := ((p17.ne rfl).trans ((p16.ne rfl).trans (p15.ne rfl))).trans s2
      refine hK19 _ _ ?_
      clear hK19
      refine wp_seq_k fun K20 hK20 => ?_
      refine wp_seq_k fun K21 hK21 => ?_
      refine wp_region_lit ?_
      refine q_val rfl rfl ?_
      refine g_move rfl s4 ?_
      intro a18 p18
      have s22 : a18.eval (.tmp 22) = .int .i64 (24 - ((((rest).length) % 24 : Nat) : Int)) := p18.at hs (by decide)
      replace hs := p18.st hs
      refine q_val rfl rfl ?_
      refine g_lss rfl s22 rfl ?_
      intro a19 p19
      have s23 : a19.eval (.tmp 23) = .bool (decide (24 - ((((rest).length) % 24 : Nat) : Int) < 4)) := p19.at hs (by decide)
      replace hs := p19.st hs
      refine wpList_nil ?_
      replace s1 : a19.eval (.tmp 1) = .pointer (some ⟨q2, 0, none⟩) := ((p19.ne rfl).trans (p18.ne rfl)).trans s1
      replace s2 : a19.eval (.tmp 2) = .pointer (some ⟨q4, 0, none⟩) := ((p19.ne rfl).trans (p18.ne rfl)).trans s2
      replace s4 : a19.eval (.tmp 4) = .int .i64 (24 - ((((rest).length) % 24 : Nat) : Int)) := ((p19.ne rfl).trans (p18.ne rfl)).trans s4
      refine hK21 _ _ ?_
      clear hK21
      by_cases hc22 : 24 - ((((rest).length) % 24 : Nat) : Int) < 4
      · replace s23 := s23.trans (congrArg Value.bool (decide_eq_true hc22))
        replace s23 : a19.eval (.tmp 23) = .bool true := s23
        refine c_true s23 ?_
        refine wp_region_lit ?_
        refine q_val rfl rfl ?_
        refine g_move rfl s4 ?_
        intro a20 p20
        have s24 : a20.eval (.tmp 24) = .int .i64 (24 - ((((rest).length) % 24 : Nat) : Int)) := p20.at hs (by decide)
        replace hs := p20.st hs
        refine q_val rfl rfl ?_
        refine g_add (r := (24 - ((((rest).length) % 24 : Nat) : Int)) + 24) rfl s24 rfl (by omega) (by omega) ?_
        intro a21 p21
        have s25 : a21.eval (.tmp 25) = .int .i64 ((24 - ((((rest).length) % 24 : Nat) : Int)) + 24) := p21.at hs (by decide)
        replace hs := p21.st hs
        refine q_val rfl rfl ?_
        refine g_assign rfl s25 ?_
        intro a22 p22
        have s4 : a22.eval (.tmp 4) = .int .i64 ((24 - ((((rest).length) % 24 : Nat) : Int)) + 24) := p22.at hs (by decide)
        replace hs := p22.st hs
        refine wpList_nil ?_
        replace s1 : a22.eval (.tmp 1) = .pointer (some ⟨q2, 0, none⟩) := ((p22.ne rfl).trans ((p21.ne rfl).trans (p20.ne rfl))).trans s1
        replace s2 : a22.eval (.tmp 2) = .pointer (some ⟨q4, 0, none⟩) := ((p22.ne rfl).trans ((p21.ne rfl).trans (p20.ne rfl))).trans s2
        refine hK20 _ _ ?_
        clear hK20
        refine wp_seq_k fun K23 hK23 => ?_
        have hk24 : fillN (rest).length < 24 := Nat.mod_lt _ (by decide)
        have hfd : fillN (rest).length = (44 - (rest).length % 24) % 24 := rfl
        have hfk : fillN (rest).length = fillN (rest).length := rfl
        refine wp_drawn (n := 37) [9, 12] [11] [] (fun k_ v_ wx => match k_ with | 0 => v_ = .agg #[.int .i64 ch, .int .i64 ct, .string ⟨(rest).toArray⟩, .slice B ds.length dp] | 1 => v_ = .int .i64 ((24 - ((((rest).length) % 24 : Nat) : Int)) + 24) | 2 => v_ = .int .i64 (((24 - ((((rest).length) % 24 : Nat) : Int)) + 24) - 4) | 3 => ∃ (qm_r24 : Nat), v_ = .slice (some ⟨qm_r24, 0, none⟩) (fillN (rest).length) (fillN (rest).length) ∧ ((wx).ownsRow w10.heap.size 5 1 (.slice (some ⟨qm_r24, 0, none⟩) (fillN (rest).length) (fillN (rest).length)) (fillN (rest).length) (List.replicate (fillN (rest).length) (.int .u8 0))) | 4 => v_ = .string ⟨(List.replicate (fillN (rest).length) 0).toArray⟩ | 5 => v_ = .agg #[.int .i64 15, .int .i64 0, .string ⟨(List.replicate (fillN (rest).length) 0).toArray⟩] | 6 => ∃ (A25 : Option Addr) (c25 : Nat), v_ = .tuple #[.agg #[.int .i64 ch, .int .i64 ct, .string ⟨((packR ch ct rest ds (⟨15, 0, List.replicate (fillN (rest).length) 0⟩ : EPacket)).1.1).toArray⟩, .slice A25 ((packR ch ct rest ds (⟨15, 0, List.replicate (fillN (rest).length) 0⟩ : EPacket)).1.2.length) c25], .bool ((packR ch ct rest ds (⟨15, 0, List.replicate (fillN (rest).length) 0⟩ : EPacket)).2)] ∧ ((wx).ownsRow w10.heap.size 3 1 (.slice A25 ((packR ch ct rest ds (⟨15, 0, List.replicate (fillN (rest).length) 0⟩ : EPacket)).1.2.length) c25) ((packR ch ct rest ds (⟨15, 0, List.replicate (fillN (rest).length) 0⟩ : EPacket)).1.2.length) (((packR ch ct rest ds (⟨15, 0, List.replicate (fillN (rest).length) 0⟩ : EPacket)).1.2).flatMap cI)) | 7 => ∃ (A_r26 : Option Addr) (c_r26 : Nat), v_ = .tuple #[.agg #[.int .i64 ch, .int .i64 ct, .string ⟨((packR ch ct rest ds (⟨15, 0, List.replicate (fillN (rest).length) 0⟩ : EPacket)).1.1).toArray⟩, .slice A_r26 ((packR ch ct rest ds (⟨15, 0, List.replicate (fillN (rest).length) 0⟩ : EPacket)).1.2.length) c_r26], .bool ((packR ch ct rest ds (⟨15, 0, List.replicate (fillN (rest).length) 0⟩ : EPacket)).2)] ∧ ((wx).ownsRow w10.heap.size 3 1 (.slice A_r26 ((packR ch ct rest ds (⟨15, 0, List.replicate (fillN (rest).length) 0⟩ : EPacket)).1.2.length) c_r26) ((packR ch ct rest ds (⟨15, 0, List.replicate (fillN (rest).length) 0⟩ : EPacket)).1.2.length) (((packR ch ct rest ds (⟨15, 0, List.replicate (fillN (rest).length) 0⟩ : EPacket)).1.2).flatMap cI)) | 8 => ∃ (A_r27 : Option Addr) (c_r27 : Nat), v_ = .agg #[.int .i64 ch, .int .i64 ct, .string ⟨((packR ch ct rest ds (⟨15, 0, List.replicate (fillN (rest).length) 0⟩ : EPacket)).1.1).toArray⟩, .slice A_r27 ((packR ch ct rest ds (⟨15, 0, List.replicate (fillN (rest).length) 0⟩ : EPacket)).1.2.length) c_r27] ∧ ((wx).ownsRow w10.heap.size 3 1 (.slice A_r27 ((packR ch ct rest ds (⟨15, 0, List.replicate (fillN (rest).length) 0⟩ : EPacket)).1.2.length) c_r27) ((packR ch ct rest ds (⟨15, 0, List.replicate (fillN (rest).length) 0⟩ : EPacket)).1.2.length) (((packR ch ct rest ds (⟨15, 0, List.replicate (fillN (rest).length) 0⟩ : EPacket)).1.2).flatMap cI)) | 9 => v_ = .bool ((packR ch ct rest ds (⟨15, 0, List.replicate (fillN (rest).length) 0⟩ : EPacket)).2) | 10 => ∃ q28, v_ = .pointer (some ⟨q28, 0, none⟩) ∧ w10.heap.size ≤ q28 ∧ wx.heap[q28]? = some (.cells #[.int .i64 0, .int .i64 0, .string ⟨#[]⟩, .slice none 0 0] 28 (0, 0)) | 12 => v_ = .bool ((packR ch ct rest ds (⟨15, 0, List.replicate (fillN (rest).length) 0⟩ : EPacket)).2) | _ => True) (by kernel_rfl) (by kernel_rfl) (by kernel_rfl) (by kernel_rfl) hs.size ?_ ?_ ?_
        · intro i v wa wb hb hr
          rcases i with _ | _ | _ | _ | _ | _ | _ | _ | _ | _ | _ | _ | _ | i
          · exact hr
          · exact hr
          · exact hr
          · obtain ⟨qm_r24, hr, o_r24⟩ := hr; exact ⟨qm_r24, hr, own_below o_r24 hb⟩
          · exact hr
          · exact hr
          · obtain ⟨A25, c25, hr, o_x25⟩ := hr; exact ⟨A25, c25, hr, own_below o_x25 hb⟩
          · obtain ⟨A_r26, c_r26, hr, o_r26⟩ := hr; exact ⟨A_r26, c_r26, hr, own_below o_r26 hb⟩
          · obtain ⟨A_r27, c_r27, hr, o_r27⟩ := hr; exact ⟨A_r27, c_r27, hr, own_below o_r27 hb⟩
          · exact hr
          · obtain ⟨q28, hr, hg, hh⟩ := hr; exact ⟨q28, hr, hg, keep_below hh hb⟩
          · trivial
          · exact hr
          · trivial
        · refine d_step rfl rfl ?_ (d_step rfl rfl ?_ (d_step rfl rfl ?_ (d_step rfl rfl ?_ (d_step rfl rfl ?_ (d_step rfl rfl ?_ (d_step rfl rfl ?_ (d_step rfl rfl ?_ (d_step rfl rfl ?_ (d_late rfl rfl ?_ (d_step rfl rfl ?_ (d_chain rfl (d_late rfl rfl ?_ (d_nil)))))))))))))
          · intro xv_ wx ρ hρ hwx hd K hK
            have e1 : ρ (.tmp 1) = .pointer (some ⟨q2, 0, none⟩) := (hρ.inn 1 rfl).trans s1
            have h_q2 := keep_below h_q2 hwx
            refine g_loadB rfl e1 Try.isAgg28 Try.sizeOf28 rfl h_q2 ?_
            exact hK _ _ (Below.refl _ _) rfl
          · intro xv_ wx ρ hρ hwx hd K hK
            have e4 : ρ (.tmp 4) = .int .i64 ((24 - ((((rest).length) % 24 : Nat) : Int)) + 24) := (hρ.inn 4 rfl).trans s4
            refine g_move rfl e4 ?_
            exact hK _ _ (Below.refl _ _) rfl
          · intro xv_ wx ρ hρ hwx hd K hK
            obtain r1 : xv_ 1 = .int .i64 ((24 - ((((rest).length) % 24 : Nat) : Int)) + 24) := hd 1 rfl
            have e28 : ρ (.tmp 28) = .int .i64 ((24 - ((((rest).length) % 24 : Nat) : Int)) + 24) := (hρ.out 1 28 rfl (by rw [hs.size]; decide) rfl).trans r1
            refine g_sub (r := ((24 - ((((rest).length) % 24 : Nat) : Int)) + 24) - 4) rfl e28 ((hρ.cst _)) (by omega) (by omega) ?_
            exact hK _ _ (Below.refl _ _) rfl
          · intro xv_ wx ρ hρ hwx hd K hK
            obtain r2 : xv_ 2 = .int .i64 (((24 - ((((rest).length) % 24 : Nat) : Int)) + 24) - 4) := hd 2 rfl
            have e29 : ρ (.tmp 29) = .int .i64 (((24 - ((((rest).length) % 24 : Nat) : Int)) + 24) - 4) := (hρ.out 2 29 rfl (by rw [hs.size]; decide) rfl).trans r2
            refine g_make (N := fillN (rest).length) (bytes := 1) w10.heap.size rfl e29 e29 (by omega) Try.underlying22 (by kernel_rfl) (by omega) (by unfold maxLen; omega) hwx.size ?_
            intro q w' ho hb
            exact hK _ _ hb ⟨q, rfl, ho⟩
          · intro xv_ wx ρ hρ hwx hd K hK
            obtain ⟨qm_r24, r3, o_r24⟩ : ∃ (qm_r24 : Nat), xv_ 3 = .slice (some ⟨qm_r24, 0, none⟩) (fillN (rest).length) (fillN (rest).length) ∧ ((wx).ownsRow w10.heap.size 5 1 (.slice (some ⟨qm_r24, 0, none⟩) (fillN (rest).length) (fillN (rest).length)) (fillN (rest).length) (List.replicate (fillN (rest).length) (.int .u8 0))) := hd 3 rfl
            have e30 : ρ (.tmp 30) = .slice (some ⟨qm_r24, 0, none⟩) (fillN (rest).length) (fillN (rest).length) := (hρ.out 3 30 rfl (by rw [hs.size]; decide) rfl).trans r3
            refine g_convOwn rfl e30 Try.underlying22 Try.underlying5 Try.underlying9 o_r24 rfl ?_
            exact hK _ _ (Below.refl _ _) rfl
          · intro xv_ wx ρ hρ hwx hd K hK
            obtain r4 : xv_ 4 = .string ⟨(List.replicate (fillN (rest).length) 0).toArray⟩ := hd 4 rfl
            have e31 : ρ (.tmp 31) = .string ⟨(List.replicate (fillN (rest).length) 0).toArray⟩ := (hρ.out 4 31 rfl (by rw [hs.size]; decide) rfl).trans r4
            refine g_build (cells := #[.int .i64 15, .int .i64 0, .string ⟨(List.replicate (fillN (rest).length) 0).toArray⟩]) rfl (arrB2 ((hρ.cst _)) e31) (by kernel_rfl) ?_
            exact hK _ _ (Below.refl _ _) rfl
          · intro xv_ wx ρ hρ hwx hd K hK
            obtain r0 : xv_ 0 = .agg #[.int .i64 ch, .int .i64 ct, .string ⟨(rest).toArray⟩, .slice B ds.length dp] := hd 0 rfl
            have e27 : ρ (.tmp 27) = .agg #[.int .i64 ch, .int .i64 ct, .string ⟨(rest).toArray⟩, .slice B ds.length dp] := (hρ.out 0 27 rfl (by rw [hs.size]; decide) rfl).trans r0
            obtain r5 : xv_ 5 = .agg #[.int .i64 15, .int .i64 0, .string ⟨(List.replicate (fillN (rest).length) 0).toArray⟩] := hd 5 rfl
            have e32 : ρ (.tmp 32) = .agg #[.int .i64 15, .int .i64 0, .string ⟨(List.replicate (fillN (rest).length) 0).toArray⟩] := (hρ.out 5 32 rfl (by rw [hs.size]; decide) rfl).trans r5
            refine g_call rfl (hρ.fn _) Try.call42 (arr2 e27 e32) ?_
            refine (sPackPacket_any _ _ _ _ _ _ ds (⟨15, 0, List.replicate (fillN (rest).length) 0⟩ : EPacket) _ hx rfl (by omega) hnn_d ((hr_d.below hB).below hwx) (by unfold Txt; simp only [List.length_replicate]; omega)).mono ?_
            rintro e wy ⟨_, rfl, ⟨_, rfl, A25, _, c25, rfl, rfl, o_x25⟩, hb25⟩
            exact ⟨_, rfl, hK _ _ hb25 ⟨A25, c25, rfl, own_base o_x25 hwx.size⟩⟩
          · intro xv_ wx ρ hρ hwx hd K hK
            obtain ⟨A25, c25, r6, o_x25⟩ : ∃ (A25 : Option Addr) (c25 : Nat), xv_ 6 = .tuple #[.agg #[.int .i64 ch, .int .i64 ct, .string ⟨((packR ch ct rest ds (⟨15, 0, List.replicate (fillN (rest).length) 0⟩ : EPacket)).1.1).toArray⟩, .slice A25 ((packR ch ct rest ds (⟨15, 0, List.replicate (fillN (rest).length) 0⟩ : EPacket)).1.2.length) c25], .bool ((packR ch ct rest ds (⟨15, 0, List.replicate (fillN (rest).length) 0⟩ : EPacket)).2)] ∧ ((wx).ownsRow w10.heap.size 3 1 (.slice A25 ((packR ch ct rest ds (⟨15, 0, List.replicate (fillN (rest).length) 0⟩ : EPacket)).1.2.length) c25) ((packR ch ct rest ds (⟨15, 0, List.replicate (fillN (rest).length) 0⟩ : EPacket)).1.2.length) (((packR ch ct rest ds (⟨15, 0, List.replicate (fillN (rest).length) 0⟩ : EPacket)).1.2).flatMap cI)) := hd 6 rfl
            have e33 : ρ (.tmp 33) = .tuple #[.agg #[.int .i64 ch, .int .i64 ct, .string ⟨((packR ch ct rest ds (⟨15, 0, List.replicate (fillN (rest).length) 0⟩ : EPacket)).1.1).toArray⟩, .slice A25 ((packR ch ct rest ds (⟨15, 0, List.replicate (fillN (rest).length) 0⟩ : EPacket)).1.2.length) c25], .bool ((packR ch ct rest ds (⟨15, 0, List.replicate (fillN (rest).length) 0⟩ : EPacket)).2)] := (hρ.out 6 33 rfl (by rw [hs.size]; decide) rfl).trans r6
            refine g_move rfl e33 ?_
            exact hK _ _ (Below.refl _ _) ⟨A25, c25, rfl, o_x25⟩
          · intro xv_ wx ρ hρ hwx hd K hK
            obtain ⟨A_r26, c_r26, r7, o_r26⟩ : ∃ (A_r26 : Option Addr) (c_r26 : Nat), xv_ 7 = .tuple #[.agg #[.int .i64 ch, .int .i64 ct, .string ⟨((packR ch ct rest ds (⟨15, 0, List.replicate (fillN (rest).length) 0⟩ : EPacket)).1.1).toArray⟩, .slice A_r26 ((packR ch ct rest ds (⟨15, 0, List.replicate (fillN (rest).length) 0⟩ : EPacket)).1.2.length) c_r26], .bool ((packR ch ct rest ds (⟨15, 0, List.replicate (fillN (rest).length) 0⟩ : EPacket)).2)] ∧ ((wx).ownsRow w10.heap.size 3 1 (.slice A_r26 ((packR ch ct rest ds (⟨15, 0, List.replicate (fillN (rest).length) 0⟩ : EPacket)).1.2.length) c_r26) ((packR ch ct rest ds (⟨15, 0, List.replicate (fillN (rest).length) 0⟩ : EPacket)).1.2.length) (((packR ch ct rest ds (⟨15, 0, List.replicate (fillN (rest).length) 0⟩ : EPacket)).1.2).flatMap cI)) := hd 7 rfl
            have e26 : ρ (.tmp 26) = .tuple #[.agg #[.int .i64 ch, .int .i64 ct, .string ⟨((packR ch ct rest ds (⟨15, 0, List.replicate (fillN (rest).length) 0⟩ : EPacket)).1.1).toArray⟩, .slice A_r26 ((packR ch ct rest ds (⟨15, 0, List.replicate (fillN (rest).length) 0⟩ : EPacket)).1.2.length) c_r26], .bool ((packR ch ct rest ds (⟨15, 0, List.replicate (fillN (rest).length) 0⟩ : EPacket)).2)] := (hρ.out 7 26 rfl (by rw [hs.size]; decide) rfl).trans r7
            refine g_extract rfl e26 rfl ?_
            exact hK _ _ (Below.refl _ _) ⟨A_r26, c_r26, rfl, o_r26⟩
          · intro xv_ wx ρ hρ hwx hd
            obtain ⟨A_r26, c_r26, r7, o_r26⟩ : ∃ (A_r26 : Option Addr) (c_r26 : Nat), xv_ 7 = .tuple #[.agg #[.int .i64 ch, .int .i64 ct, .string ⟨((packR ch ct rest ds (⟨15, 0, List.replicate (fillN (rest).length) 0⟩ : EPacket)).1.1).toArray⟩, .slice A_r26 ((packR ch ct rest ds (⟨15, 0, List.replicate (fillN (rest).length) 0⟩ : EPacket)).1.2.length) c_r26], .bool ((packR ch ct rest ds (⟨15, 0, List.replicate (fillN (rest).length) 0⟩ : EPacket)).2)] ∧ ((wx).ownsRow w10.heap.size 3 1 (.slice A_r26 ((packR ch ct rest ds (⟨15, 0, List.replicate (fillN (rest).length) 0⟩ : EPacket)).1.2.length) c_r26) ((packR ch ct rest ds (⟨15, 0, List.replicate (fillN (rest).length) 0⟩ : EPacket)).1.2.length) (((packR ch ct rest ds (⟨15, 0, List.replicate (fillN (rest).length) 0⟩ : EPacket)).1.2).flatMap cI)) := hd 7 rfl rfl
            have e26 : ρ (.tmp 26) = .tuple #[.agg #[.int .i64 ch, .int .i64 ct, .string ⟨((packR ch ct rest ds (⟨15, 0, List.replicate (fillN (rest).length) 0⟩ : EPacket)).1.1).toArray⟩, .slice A_r26 ((packR ch ct rest ds (⟨15, 0, List.replicate (fillN (rest).length) 0⟩ : EPacket)).1.2.length) c_r26], .bool ((packR ch ct rest ds (⟨15, 0, List.replicate (fillN (rest).length) 0⟩ : EPacket)).2)] := (hρ.out 7 26 rfl (by rw [hs.size]; decide) rfl).trans r7
            exact ⟨_, fun w' => l_extract rfl e26 rfl, rfl⟩
          · intro xv_ wx ρ hρ hwx hd K hK
            refine g_alloc rfl Try.zeroValue28 rfl ?_
            intro q w' N
            exact hK _ _ N.below ⟨q, rfl, Nat.le_trans hwx.size N.lo, N.here⟩
          · intro xv_ wx ρ hρ hwx hd
            obtain r9 : xv_ 9 = .bool ((packR ch ct rest ds (⟨15, 0, List.replicate (fillN (rest).length) 0⟩ : EPacket)).2) := hd 9 rfl rfl
            have e35 : ρ (.tmp 35) = .bool ((packR ch ct rest ds (⟨15, 0, List.replicate (fillN (rest).length) 0⟩ : EPacket)).2) := (hρ.out 9 35 rfl (by rw [hs.size]; decide) rfl).trans r9
            exact ⟨_, fun w' => l_assign rfl e35, rfl⟩
        · intro x0_ w29 hb_w29 hr0
          obtain r0 : x0_ 0 = .agg #[.int .i64 ch, .int .i64 ct, .string ⟨(rest).toArray⟩, .slice B ds.length dp] := hr0 0 (by decide) rfl rfl
          obtain r1 : x0_ 1 = .int .i64 ((24 - ((((rest).length) % 24 : Nat) : Int)) + 24) := hr0 1 (by decide) rfl rfl
          obtain r2 : x0_ 2 = .int .i64 (((24 - ((((rest).length) % 24 : Nat) : Int)) + 24) - 4) := hr0 2 (by decide) rfl rfl
          obtain ⟨qm_r24, r3, o_r24⟩ : ∃ (qm_r24 : Nat), x0_ 3 = .slice (some ⟨qm_r24, 0, none⟩) (fillN (rest).length) (fillN (rest).length) ∧ ((w29).ownsRow w10.heap.size 5 1 (.slice (some ⟨qm_r24, 0, none⟩) (fillN (rest).length) (fillN (rest).length)) (fillN (rest).length) (List.replicate (fillN (rest).length) (.int .u8 0))) := hr0 3 (by decide) rfl rfl
          obtain r4 : x0_ 4 = .string ⟨(List.replicate (fillN (rest).length) 0).toArray⟩ := hr0 4 (by decide) rfl rfl
          obtain r5 : x0_ 5 = .agg #[.int .i64 15, .int .i64 0, .string ⟨(List.replicate (fillN (rest).length) 0).toArray⟩] := hr0 5 (by decide) rfl rfl
          obtain ⟨A25, c25, r6, o_x25⟩ : ∃ (A25 : Option Addr) (c25 : Nat), x0_ 6 = .tuple #[.agg #[.int .i64 ch, .int .i64 ct, .string ⟨((packR ch ct rest ds (⟨15, 0, List.replicate (fillN (rest).length) 0⟩ : EPacket)).1.1).toArray⟩, .slice A25 ((packR ch ct rest ds (⟨15, 0, List.replicate (fillN (rest).length) 0⟩ : EPacket)).1.2.length) c25], .bool ((packR ch ct rest ds (⟨15, 0, List.replicate (fillN (rest).length) 0⟩ : EPacket)).2)] ∧ ((w29).ownsRow w10.heap.size 3 1 (.slice A25 ((packR ch ct rest ds (⟨15, 0, List.replicate (fillN (rest).length) 0⟩ : EPacket)).1.2.length) c25) ((packR ch ct rest ds (⟨15, 0, List.replicate (fillN (rest).length) 0⟩ : EPacket)).1.2.length) (((packR ch ct rest ds (⟨15, 0, List.replicate (fillN (rest).length) 0⟩ : EPacket)).1.2).flatMap cI)) := hr0 6 (by decide) rfl rfl
          obtain ⟨A_r26, c_r26, r7, o_r26⟩ : ∃ (A_r26 : Option Addr) (c_r26 : Nat), x0_ 7 = .tuple #[.agg #[.int .i64 ch, .int .i64 ct, .string ⟨((packR ch ct rest ds (⟨15, 0, List.replicate (fillN (rest).length) 0⟩ : EPacket)).1.1).toArray⟩, .slice A_r26 ((packR ch ct rest ds (⟨15, 0, List.replicate (fillN (rest).length) 0⟩ : EPacket)).1.2.length) c_r26], .bool ((packR ch ct rest ds (⟨15, 0, List.replicate (fillN (rest).length) 0⟩ : EPacket)).2)] ∧ ((w29).ownsRow w10.heap.size 3 1 (.slice A_r26 ((packR ch ct rest ds (⟨15, 0, List.replicate (fillN (rest).length) 0⟩ : EPacket)).1.2.length) c_r26) ((packR ch ct rest ds (⟨15, 0, List.replicate (fillN (rest).length) 0⟩ : EPacket)).1.2.length) (((packR ch ct rest ds (⟨15, 0, List.replicate (fillN (rest).length) 0⟩ : EPacket)).1.2).flatMap cI)) := hr0 7 (by decide) rfl rfl
          obtain ⟨A_r27, c_r27, r8, o_r27⟩ : ∃ (A_r27 : Option Addr) (c_r27 : Nat), x0_ 8 = .agg #[.int .i64 ch, .int .i64 ct, .string ⟨((packR ch ct rest ds (⟨15, 0, List.replicate (fillN (rest).length) 0⟩ : EPacket)).1.1).toArray⟩, .slice A_r27 ((packR ch ct rest ds (⟨15, 0, List.replicate (fillN (rest).length) 0⟩ : EPacket)).1.2.length) c_r27] ∧ ((w29).ownsRow w10.heap.size 3 1 (.slice A_r27 ((packR ch ct rest ds (⟨15, 0, List.replicate (fillN (rest).length) 0⟩ : EPacket)).1.2.length) c_r27) ((packR ch ct rest ds (⟨15, 0, List.replicate (fillN (rest).length) 0⟩ : EPacket)).1.2.length) (((packR ch ct rest ds (⟨15, 0, List.replicate (fillN (rest).length) 0⟩ : EPacket)).1.2).flatMap cI)) := hr0 8 (by decide) rfl rfl
          obtain ⟨q28, r10, g0_q28, h_q28⟩ : ∃ q28, x0_ 10 = .pointer (some ⟨q28, 0, none⟩) ∧ w10.heap.size ≤ q28 ∧ w29.heap[q28]? = some (.cells #[.int .i64 0, .int .i64 0, .string ⟨#[]⟩, .slice none 0 0] 28 (0, 0)) := hr0 10 (by decide) rfl rfl
          clear hr0
          have d_r27_q2 := own_ne_box o_r27 (lt_of_block h_q2)
          have d_r27_q4 := own_ne_box o_r27 (lt_of_block h_q4)
          have g_r27 : ∀ b, (A_r27 : Option Addr).map (·.block) = some b → w.heap.size ≤ b := fun b h => Nat.le_trans hB.size (own_row o_r27 b h).1
          replace o_r27 := own_base (base := w.heap.size) o_r27 hB.size
          have n_q2_q28 : NeB q2 q28 := ⟨fun e => by have := lt_of_block h_q2; omega⟩
          have n_q28_q2 := n_q2_q28.symm
          have n_q4_q28 : NeB q4 q28 := ⟨fun e => by have := lt_of_block h_q4; omega⟩
          have n_q28_q4 := n_q4_q28.symm
          have g_q28 : GeB w.heap.size q28 := ⟨Nat.le_trans hB.size g0_q28⟩
          clear g0_q28
          have d_r27_q28 := own_ne_cells o_r27 h_q28 (by decide)
          replace h_q2 := keep_below h_q2 hb_w29
          replace h_q4 := keep_below h_q4 hb_w29
          replace hB := hB.trans (hb_w29.mono hB.size)
          clear hb_w29
          intro op_ ho_ xv_ ρ hρ qx_ ql_ qk_
          obtain rfl := Option.some.inj ho_
          clear ho_
          have e5 : ρ (.tmp 5) = .pointer (some ⟨q28, 0, none⟩) := (hρ.out 10 5 rfl (by rw [hs.size]; decide) rfl).trans ((qx_ 10 (by decide) rfl rfl).trans r10)
          have e34 : ρ (.tmp 34) = .agg #[.int .i64 ch, .int .i64 ct, .string ⟨((packR ch ct rest ds (⟨15, 0, List.replicate (fillN (rest).length) 0⟩ : EPacket)).1.1).toArray⟩, .slice A_r27 ((packR ch ct rest ds (⟨15, 0, List.replicate (fillN (rest).length) 0⟩ : EPacket)).1.2.length) c_r27] := (hρ.out 8 34 rfl (by rw [hs.size]; decide) rfl).trans ((qx_ 8 (by decide) rfl rfl).trans r8)
          refine g_storeB rfl e5 e34 Try.sizeOf28 rfl rfl h_q28 rfl ?_
          intro w30 W_w30
          replace h_q2 := keep_wrote h_q2 W_w30 n_q28_q2
          replace h_q4 := keep_wrote h_q4 W_w30 n_q28_q4
          replace h_q28 := W_w30.here
          replace o_r27 := own_wrote o_r27 W_w30 d_r27_q28
          replace hB := below_wrote hB hB.size W_w30 g_q28.le
          clear W_w30
          clear e34 e5
          clear hρ qx_ ql_ qk_
          intro xv_ a23 hρ hsz hdf qx_ ql_ qk_ qlk_
          replace s2 : a23.eval (.tmp 2) = .pointer (some ⟨q4, 0, none⟩) := (hρ.inn 2 rfl).trans s2
          have s5 : a23.eval (.tmp 5) = .pointer (some ⟨q28, 0, none⟩) := (hρ.out 10 5 rfl (by rw [hs.size]; decide)).trans ((qx_ 10 (by decide) rfl rfl).trans r10)
          replace hs : St 37 a23 := ⟨hsz.trans hs.size, hdf.trans hs.nodef⟩
          clear hρ hsz hdf qx_ ql_ qk_ qlk_
          refine hK23 _ _ ?_
          clear hK23
          refine wp_seq_k fun K31 hK31 => ?_
          refine wp_region_lit ?_
          refine q_val rfl rfl ?_
          refine g_loadB rfl s5 Try.isAgg28 Try.sizeOf28 rfl h_q28 ?_
          intro a24 p24
          have s36 : a24.eval (.tmp 36) = .agg #[.int .i64 ch, .int .i64 ct, .string ⟨((packR ch ct rest ds (⟨15, 0, List.replicate (fillN (rest).length) 0⟩ : EPacket)).1.1).toArray⟩, .slice A_r27 ((packR ch ct rest ds (⟨15, 0, List.replicate (fillN (rest).length) 0⟩ : EPacket)).1.2.length) c_r27] := p24.at hs (by decide)
          replace hs := p24.st hs
          refine q_eff rfl rfl ?_
          refine g_storeB rfl ((p24.ne rfl).trans s2) s36 Try.sizeOf28 rfl rfl h_q4 rfl ?_
          intro w32 W_w32
          replace h_q2 := keep_wrote h_q2 W_w32 n_q4_q2
          replace h_q4 := W_w32.here
          replace h_q28 := keep_wrote h_q28 W_w32 n_q4_q28
          replace o_r27 := own_wrote o_r27 W_w32 d_r27_q4
          replace hB := below_wrote hB hB.size W_w32 g_q4.le
          clear W_w32
          refine wpList_nil ?_
          replace s2 : a24.eval (.tmp 2) = .pointer (some ⟨q4, 0, none⟩) := (p24.ne rfl).trans s2
          refine hK31 _ _ ?_
          clear hK31
          refine wp_ret ?_
          try dsimp only [Exit.then, Exit.inBlock]
          refine ret1 hs Try.results18 (res_cell s2 h_q4 Try.isAgg28 Try.sizeOf28 rfl) ?_
          refine ⟨_, rfl, ?_, hB⟩
          rw [fillR_yes h1 (by omega) hfk]
          exact ⟨_, _, _, rfl, rfl, o_r27⟩
      · replace s23 := s23.trans (congrArg Value.bool (decide_eq_false hc22))
        replace s23 : a19.eval (.tmp 23) = .bool false := s23
        refine c_false s23 ?_
        refine wp_skip ?_
        refine hK20 _ _ ?_
        clear hK20
        refine wp_seq_k fun K33 hK33 => ?_
        have hk24 : fillN (rest).length < 24 := Nat.mod_lt _ (by decide)
        have hfd : fillN (rest).length = (44 - (rest).length % 24) % 24 := rfl
        have hfk : fillN (rest).length = fillN (rest).length := rfl
        refine wp_drawn (n := 37) [9, 12] [11] [] (fun k_ v_ wx => match k_ with | 0 => v_ = .agg #[.int .i64 ch, .int .i64 ct, .string ⟨(rest).toArray⟩, .slice B ds.length dp] | 1 => v_ = .int .i64 (24 - ((((rest).length) % 24 : Nat) : Int)) | 2 => v_ = .int .i64 ((24 - ((((rest).length) % 24 : Nat) : Int)) - 4) | 3 => ∃ (qm_r34 : Nat), v_ = .slice (some ⟨qm_r34, 0, none⟩) (fillN (rest).length) (fillN (rest).length) ∧ ((wx).ownsRow w10.heap.size 5 1 (.slice (some ⟨qm_r34, 0, none⟩) (fillN (rest).length) (fillN (rest).length)) (fillN (rest).length) (List.replicate (fillN (rest).length) (.int .u8 0))) | 4 => v_ = .string ⟨(List.replicate (fillN (rest).length) 0).toArray⟩ | 5 => v_ = .agg #[.int .i64 15, .int .i64 0, .string ⟨(List.replicate (fillN (rest).length) 0).toArray⟩] | 6 => ∃ (A35 : Option Addr) (c35 : Nat), v_ = .tuple #[.agg #[.int .i64 ch, .int .i64 ct, .string ⟨((packR ch ct rest ds (⟨15, 0, List.replicate (fillN (rest).length) 0⟩ : EPacket)).1.1).toArray⟩, .slice A35 ((packR ch ct rest ds (⟨15, 0, List.replicate (fillN (rest).length) 0⟩ : EPacket)).1.2.length) c35], .bool ((packR ch ct rest ds (⟨15, 0, List.replicate (fillN (rest).length) 0⟩ : EPacket)).2)] ∧ ((wx).ownsRow w10.heap.size 3 1 (.slice A35 ((packR ch ct rest ds (⟨15, 0, List.replicate (fillN (rest).length) 0⟩ : EPacket)).1.2.length) c35) ((packR ch ct rest ds (⟨15, 0, List.replicate (fillN (rest).length) 0⟩ : EPacket)).1.2.length) (((packR ch ct rest ds (⟨15, 0, List.replicate (fillN (rest).length) 0⟩ : EPacket)).1.2).flatMap cI)) | 7 => ∃ (A_r36 : Option Addr) (c_r36 : Nat), v_ = .tuple #[.agg #[.int .i64 ch, .int .i64 ct, .string ⟨((packR ch ct rest ds (⟨15, 0, List.replicate (fillN (rest).length) 0⟩ : EPacket)).1.1).toArray⟩, .slice A_r36 ((packR ch ct rest ds (⟨15, 0, List.replicate (fillN (rest).length) 0⟩ : EPacket)).1.2.length) c_r36], .bool ((packR ch ct rest ds (⟨15, 0, List.replicate (fillN (rest).length) 0⟩ : EPacket)).2)] ∧ ((wx).ownsRow w10.heap.size 3 1 (.slice A_r36 ((packR ch ct rest ds (⟨15, 0, List.replicate (fillN (rest).length) 0⟩ : EPacket)).1.2.length) c_r36) ((packR ch ct rest ds (⟨15, 0, List.replicate (fillN (rest).length) 0⟩ : EPacket)).1.2.length) (((packR ch ct rest ds (⟨15, 0, List.replicate (fillN (rest).length) 0⟩ : EPacket)).1.2).flatMap cI)) | 8 => ∃ (A_r37 : Option Addr) (c_r37 : Nat), v_ = .agg #[.int .i64 ch, .int .i64 ct, .string ⟨((packR ch ct rest ds (⟨15, 0, List.replicate (fillN (rest).length) 0⟩ : EPacket)).1.1).toArray⟩, .slice A_r37 ((packR ch ct rest ds (⟨15, 0, List.replicate (fillN (rest).length) 0⟩ : EPacket)).1.2.length) c_r37] ∧ ((wx).ownsRow w10.heap.size 3 1 (.slice A_r37 ((packR ch ct rest ds (⟨15, 0, List.replicate (fillN (rest).length) 0⟩ : EPacket)).1.2.length) c_r37) ((packR ch ct rest ds (⟨15, 0, List.replicate (fillN (rest).length) 0⟩ : EPacket)).1.2.length) (((packR ch ct rest ds (⟨15, 0, List.replicate (fillN (rest).length) 0⟩ : EPacket)).1.2).flatMap cI)) | 9 => v_ = .bool ((packR ch ct rest ds (⟨15, 0, List.replicate (fillN (rest).length) 0⟩ : EPacket)).2) | 10 => ∃ q38, v_ = .pointer (some ⟨q38, 0, none⟩) ∧ w10.heap.size ≤ q38 ∧ wx.heap[q38]? = some (.cells #[.int .i64 0, .int .i64 0, .string ⟨#[]⟩, .slice none 0 0] 28 (0, 0)) | 12 => v_ = .bool ((packR ch ct rest ds (⟨15, 0, List.replicate (fillN (rest).length) 0⟩ : EPacket)).2) | _ => True) (by kernel_rfl) (by kernel_rfl) (by kernel_rfl) (by kernel_rfl) hs.size ?_ ?_ ?_
        · intro i v wa wb hb hr
          rcases i with _ | _ | _ | _ | _ | _ | _ | _ | _ | _ | _ | _ | _ | i
          · exact hr
          · exact hr
          · exact hr
          · obtain ⟨qm_r34, hr, o_r34⟩ := hr; exact ⟨qm_r34, hr, own_below o_r34 hb⟩
          · exact hr
          · exact hr
          · obtain ⟨A35, c35, hr, o_x35⟩ := hr; exact ⟨A35, c35, hr, own_below o_x35 hb⟩
          · obtain ⟨A_r36, c_r36, hr, o_r36⟩ := hr; exact ⟨A_r36, c_r36, hr, own_below o_r36 hb⟩
          · obtain ⟨A_r37, c_r37, hr, o_r37⟩ := hr; exact ⟨A_r37, c_r37, hr, own_below o_r37 hb⟩
          · exact hr
          · obtain ⟨q38, hr, hg, hh⟩ := hr; exact ⟨q38, hr, hg, keep_below hh hb⟩
          · trivial
          · exact hr
          · trivial
        · refine d_step rfl rfl ?_ (d_step rfl rfl ?_ (d_step rfl rfl ?_ (d_step rfl rfl ?_ (d_step rfl rfl ?_ (d_step rfl rfl ?_ (d_step rfl rfl ?_ (d_step rfl rfl ?_ (d_step rfl rfl ?_ (d_late rfl rfl ?_ (d_step rfl rfl ?_ (d_chain rfl (d_late rfl rfl ?_ (d_nil)))))))))))))
          · intro xv_ wx ρ hρ hwx hd K hK
            have e1 : ρ (.tmp 1) = .pointer (some ⟨q2, 0, none⟩) := (hρ.inn 1 rfl).trans s1
            have h_q2 := keep_below h_q2 hwx
            refine g_loadB rfl e1 Try.isAgg28 Try.sizeOf28 rfl h_q2 ?_
            exact hK _ _ (Below.refl _ _) rfl
          · intro xv_ wx ρ hρ hwx hd K hK
            have e4 : ρ (.tmp 4) = .int .i64 (24 - ((((rest).length) % 24 : Nat) : Int)) := (hρ.inn 4 rfl).trans s4
            refine g_move rfl e4 ?_
            exact hK _ _ (Below.refl _ _) rfl
          · intro xv_ wx ρ hρ hwx hd K hK
            obtain r1 : xv_ 1 = .int .i64 (24 - ((((rest).length) % 24 : Nat) : Int)) := hd 1 rfl
            have e28 : ρ (.tmp 28) = .int .i64 (24 - ((((rest).length) % 24 : Nat) : Int)) := (hρ.out 1 28 rfl (by rw [hs.size]; decide) rfl).trans r1
            refine g_sub (r := (24 - ((((rest).length) % 24 : Nat) : Int)) - 4) rfl e28 ((hρ.cst _)) (by omega) (by omega) ?_
            exact hK _ _ (Below.refl _ _) rfl
          · intro xv_ wx ρ hρ hwx hd K hK
            obtain r2 : xv_ 2 = .int .i64 ((24 - ((((rest).length) % 24 : Nat) : Int)) - 4) := hd 2 rfl
            have e29 : ρ (.tmp 29) = .int .i64 ((24 - ((((rest).length) % 24 : Nat) : Int)) - 4) := (hρ.out 2 29 rfl (by rw [hs.size]; decide) rfl).trans r2
            refine g_make (N := fillN (rest).length) (bytes := 1) w10.heap.size rfl e29 e29 (by omega) Try.underlying22 (by kernel_rfl) (by omega) (by unfold maxLen; omega) hwx.size ?_
            intro q w' ho hb
            exact hK _ _ hb ⟨q, rfl, ho⟩
          · intro xv_ wx ρ hρ hwx hd K hK
            obtain ⟨qm_r34, r3, o_r34⟩ : ∃ (qm_r34 : Nat), xv_ 3 = .slice (some ⟨qm_r34, 0, none⟩) (fillN (rest).length) (fillN (rest).length) ∧ ((wx).ownsRow w10.heap.size 5 1 (.slice (some ⟨qm_r34, 0, none⟩) (fillN (rest).length) (fillN (rest).length)) (fillN (rest).length) (List.replicate (fillN (rest).length) (.int .u8 0))) := hd 3 rfl
            have e30 : ρ (.tmp 30) = .slice (some ⟨qm_r34, 0, none⟩) (fillN (rest).length) (fillN (rest).length) := (hρ.out 3 30 rfl (by rw [hs.size]; decide) rfl).trans r3
            refine g_convOwn rfl e30 Try.underlying22 Try.underlying5 Try.underlying9 o_r34 rfl ?_
            exact hK _ _ (Below.refl _ _) rfl
          · intro xv_ wx ρ hρ hwx hd K hK
            obtain r4 : xv_ 4 = .string ⟨(List.replicate (fillN (rest).length) 0).toArray⟩ := hd 4 rfl
            have e31 : ρ (.tmp 31) = .string ⟨(List.replicate (fillN (rest).length) 0).toArray⟩ := (hρ.out 4 31 rfl (by rw [hs.size]; decide) rfl).trans r4
            refine g_build (cells := #[.int .i64 15, .int .i64 0, .string ⟨(List.replicate (fillN (rest).length) 0).toArray⟩]) rfl (arrB2 ((hρ.cst _)) e31) (by kernel_rfl) ?_
            exact hK _ _ (Below.refl _ _) rfl
          · intro xv_ wx ρ hρ hwx hd K hK
            obtain r0 : xv_ 0 = .agg #[.int .i64 ch, .int .i64 ct, .string ⟨(rest).toArray⟩, .slice B ds.length dp] := hd 0 rfl
            have e27 : ρ (.tmp 27) = .agg #[.int .i64 ch, .int .i64 ct, .string ⟨(rest).toArray⟩, .slice B ds.length dp] := (hρ.out 0 27 rfl (by rw [hs.size]; decide) rfl).trans r0
            obtain r5 : xv_ 5 = .agg #[.int .i64 15, .int .i64 0, .string ⟨(List.replicate (fillN (rest).length) 0).toArray⟩] := hd 5 rfl
            have e32 : ρ (.tmp 32) = .agg #[.int .i64 15, .int .i64 0, .string ⟨(List.replicate (fillN (rest).length) 0).toArray⟩] := (hρ.out 5 32 rfl (by rw [hs.size]; decide) rfl).trans r5
            refine g_call rfl (hρ.fn _) Try.call42 (arr2 e27 e32) ?_
            refine (sPackPacket_any _ _ _ _ _ _ ds (⟨15, 0, List.replicate (fillN (rest).length) 0⟩ : EPacket) _ hx rfl (by omega) hnn_d ((hr_d.below hB).below hwx) (by unfold Txt; simp only [List.length_replicate]; omega)).mono ?_
            rintro e wy ⟨_, rfl, ⟨_, rfl, A35, _, c35, rfl, rfl, o_x35⟩, hb35⟩
            exact ⟨_, rfl, hK _ _ hb35 ⟨A35, c35, rfl, own_base o_x35 hwx.size⟩⟩
          · intro xv_ wx ρ hρ hwx hd K hK
            obtain ⟨A35, c35, r6, o_x35⟩ : ∃ (A35 : Option Addr) (c35 : Nat), xv_ 6 = .tuple #[.agg #[.int .i64 ch, .int .i64 ct, .string ⟨((packR ch ct rest ds (⟨15, 0, List.replicate (fillN (rest).length) 0⟩ : EPacket)).1.1).toArray⟩, .slice A35 ((packR ch ct rest ds (⟨15, 0, List.replicate (fillN (rest).length) 0⟩ : EPacket)).1.2.length) c35], .bool ((packR ch ct rest ds (⟨15, 0, List.replicate (fillN (rest).length) 0⟩ : EPacket)).2)] ∧ ((wx).ownsRow w10.heap.size 3 1 (.slice A35 ((packR ch ct rest ds (⟨15, 0, List.replicate (fillN (rest).length) 0⟩ : EPacket)).1.2.length) c35) ((packR ch ct rest ds (⟨15, 0, List.replicate (fillN (rest).length) 0⟩ : EPacket)).1.2.length) (((packR ch ct rest ds (⟨15, 0, List.replicate (fillN (rest).length) 0⟩ : EPacket)).1.2).flatMap cI)) := hd 6 rfl
            have e33 : ρ (.tmp 33) = .tuple #[.agg #[.int .i64 ch, .int .i64 ct, .string ⟨((packR ch ct rest ds (⟨15, 0, List.replicate (fillN (rest).length) 0⟩ : EPacket)).1.1).toArray⟩, .slice A35 ((packR ch ct rest ds (⟨15, 0, List.replicate (fillN (rest).length) 0⟩ : EPacket)).1.2.length) c35], .bool ((packR ch ct rest ds (⟨15, 0, List.replicate (fillN (rest).length) 0⟩ : EPacket)).2)] := (hρ.out 6 33 rfl (by rw [hs.size]; decide) rfl).trans r6
            refine g_move rfl e33 ?_
            exact hK _ _ (Below.refl _ _) ⟨A35, c35, rfl, o_x35⟩
          · intro xv_ wx ρ hρ hwx hd K hK
            obtain ⟨A_r36, c_r36, r7, o_r36⟩ : ∃ (A_r36 : Option Addr) (c_r36 : Nat), xv_ 7 = .tuple #[.agg #[.int .i64 ch, .int .i64 ct, .string ⟨((packR ch ct rest ds (⟨15, 0, List.replicate (fillN (rest).length) 0⟩ : EPacket)).1.1).toArray⟩, .slice A_r36 ((packR ch ct rest ds (⟨15, 0, List.replicate (fillN (rest).length) 0⟩ : EPacket)).1.2.length) c_r36], .bool ((packR ch ct rest ds (⟨15, 0, List.replicate (fillN (rest).length) 0⟩ : EPacket)).2)] ∧ ((wx).ownsRow w10.heap.size 3 1 (.slice A_r36 ((packR ch ct rest ds (⟨15, 0, List.replicate (fillN (rest).length) 0⟩ : EPacket)).1.2.length) c_r36) ((packR ch ct rest ds (⟨15, 0, List.replicate (fillN (rest).length) 0⟩ : EPacket)).1.2.length) (((packR ch ct rest ds (⟨15, 0, List.replicate (fillN (rest).length) 0⟩ : EPacket)).1.2).flatMap cI)) := hd 7 rfl
            have e26 : ρ (.tmp 26) = .tuple #[.agg #[.int .i64 ch, .int .i64 ct, .string ⟨((packR ch ct rest ds (⟨15, 0, List.replicate (fillN (rest).length) 0⟩ : EPacket)).1.1).toArray⟩, .slice A_r36 ((packR ch ct rest ds (⟨15, 0, List.replicate (fillN (rest).length) 0⟩ : EPacket)).1.2.length) c_r36], .bool ((packR ch ct rest ds (⟨15, 0, List.replicate (fillN (rest).length) 0⟩ : EPacket)).2)] := (hρ.out 7 26 rfl (by rw [hs.size]; decide) rfl).trans r7
            refine g_extract rfl e26 rfl ?_
            exact hK _ _ (Below.refl _ _) ⟨A_r36, c_r36, rfl, o_r36⟩
          · intro xv_ wx ρ hρ hwx hd
            obtain ⟨A_r36, c_r36, r7, o_r36⟩ : ∃ (A_r36 : Option Addr) (c_r36 : Nat), xv_ 7 = .tuple #[.agg #[.int .i64 ch, .int .i64 ct, .string ⟨((packR ch ct rest ds (⟨15, 0, List.replicate (fillN (rest).length) 0⟩ : EPacket)).1.1).toArray⟩, .slice A_r36 ((packR ch ct rest ds (⟨15, 0, List.replicate (fillN (rest).length) 0⟩ : EPacket)).1.2.length) c_r36], .bool ((packR ch ct rest ds (⟨15, 0, List.replicate (fillN (rest).length) 0⟩ : EPacket)).2)] ∧ ((wx).ownsRow w10.heap.size 3 1 (.slice A_r36 ((packR ch ct rest ds (⟨15, 0, List.replicate (fillN (rest).length) 0⟩ : EPacket)).1.2.length) c_r36) ((packR ch ct rest ds (⟨15, 0, List.replicate (fillN (rest).length) 0⟩ : EPacket)).1.2.length) (((packR ch ct rest ds (⟨15, 0, List.replicate (fillN (rest).length) 0⟩ : EPacket)).1.2).flatMap cI)) := hd 7 rfl rfl
            have e26 : ρ (.tmp 26) = .tuple #[.agg #[.int .i64 ch, .int .i64 ct, .string ⟨((packR ch ct rest ds (⟨15, 0, List.replicate (fillN (rest).length) 0⟩ : EPacket)).1.1).toArray⟩, .slice A_r36 ((packR ch ct rest ds (⟨15, 0, List.replicate (fillN (rest).length) 0⟩ : EPacket)).1.2.length) c_r36], .bool ((packR ch ct rest ds (⟨15, 0, List.replicate (fillN (rest).length) 0⟩ : EPacket)).2)] := (hρ.out 7 26 rfl (by rw [hs.size]; decide) rfl).trans r7
            exact ⟨_, fun w' => l_extract rfl e26 rfl, rfl⟩
          · intro xv_ wx ρ hρ hwx hd K hK
            refine g_alloc rfl Try.zeroValue28 rfl ?_
            intro q w' N
            exact hK _ _ N.below ⟨q, rfl, Nat.le_trans hwx.size N.lo, N.here⟩
          · intro xv_ wx ρ hρ hwx hd
            obtain r9 : xv_ 9 = .bool ((packR ch ct rest ds (⟨15, 0, List.replicate (fillN (rest).length) 0⟩ : EPacket)).2) := hd 9 rfl rfl
            have e35 : ρ (.tmp 35) = .bool ((packR ch ct rest ds (⟨15, 0, List.replicate (fillN (rest).length) 0⟩ : EPacket)).2) := (hρ.out 9 35 rfl (by rw [hs.size]; decide) rfl).trans r9
            exact ⟨_, fun w' => l_assign rfl e35, rfl⟩
        · intro x0_ w39 hb_w39 hr0
          obtain r0 : x0_ 0 = .agg #[.int .i64 ch, .int .i64 ct, .string ⟨(rest).toArray⟩, .slice B ds.length dp] := hr0 0 (by decide) rfl rfl
          obtain r1 : x0_ 1 = .int .i64 (24 - ((((rest).length) % 24 : Nat) : Int)) := hr0 1 (by decide) rfl rfl
          obtain r2 : x0_ 2 = .int .i64 ((24 - ((((rest).length) % 24 : Nat) : Int)) - 4) := hr0 2 (by decide) rfl rfl
          obtain ⟨qm_r34, r3, o_r34⟩ : ∃ (qm_r34 : Nat), x0_ 3 = .slice (some ⟨qm_r34, 0, none⟩) (fillN (rest).length) (fillN (rest).length) ∧ ((w39).ownsRow w10.heap.size 5 1 (.slice (some ⟨qm_r34, 0, none⟩) (fillN (rest).length) (fillN (rest).length)) (fillN (rest).length) (List.replicate (fillN (rest).length) (.int .u8 0))) := hr0 3 (by decide) rfl rfl
          obtain r4 : x0_ 4 = .string ⟨(List.replicate (fillN (rest).length) 0).toArray⟩ := hr0 4 (by decide) rfl rfl
          obtain r5 : x0_ 5 = .agg #[.int .i64 15, .int .i64 0, .string ⟨(List.replicate (fillN (rest).length) 0).toArray⟩] := hr0 5 (by decide) rfl rfl
          obtain ⟨A35, c35, r6, o_x35⟩ : ∃ (A35 : Option Addr) (c35 : Nat), x0_ 6 = .tuple #[.agg #[.int .i64 ch, .int .i64 ct, .string ⟨((packR ch ct rest ds (⟨15, 0, List.replicate (fillN (rest).length) 0⟩ : EPacket)).1.1).toArray⟩, .slice A35 ((packR ch ct rest ds (⟨15, 0, List.replicate (fillN (rest).length) 0⟩ : EPacket)).1.2.length) c35], .bool ((packR ch ct rest ds (⟨15, 0, List.replicate (fillN (rest).length) 0⟩ : EPacket)).2)] ∧ ((w39).ownsRow w10.heap.size 3 1 (.slice A35 ((packR ch ct rest ds (⟨15, 0, List.replicate (fillN (rest).length) 0⟩ : EPacket)).1.2.length) c35) ((packR ch ct rest ds (⟨15, 0, List.replicate (fillN (rest).length) 0⟩ : EPacket)).1.2.length) (((packR ch ct rest ds (⟨15, 0, List.replicate (fillN (rest).length) 0⟩ : EPacket)).1.2).flatMap cI)) := hr0 6 (by decide) rfl rfl
          obtain ⟨A_r36, c_r36, r7, o_r36⟩ : ∃ (A_r36 : Option Addr) (c_r36 : Nat), x0_ 7 = .tuple #[.agg #[.int .i64 ch, .int .i64 ct, .string ⟨((packR ch ct rest ds (⟨15, 0, List.replicate (fillN (rest).length) 0⟩ : EPacket)).1.1).toArray⟩, .slice A_r36 ((packR ch ct rest ds (⟨15, 0, List.replicate (fillN (rest).length) 0⟩ : EPacket)).1.2.length) c_r36], .bool ((packR ch ct rest ds (⟨15, 0, List.replicate (fillN (rest).length) 0⟩ : EPacket)).2)] ∧ ((w39).ownsRow w10.heap.size 3 1 (.slice A_r36 ((packR ch ct rest ds (⟨15, 0, List.replicate (fillN (rest).length) 0⟩ : EPacket)).1.2.length) c_r36) ((packR ch ct rest ds (⟨15, 0, List.replicate (fillN (rest).length) 0⟩ : EPacket)).1.2.length) (((packR ch ct rest ds (⟨15, 0, List.replicate (fillN (rest).length) 0⟩ : EPacket)).1.2).flatMap cI)) := hr0 7 (by decide) rfl rfl
          obtain ⟨A_r37, c_r37, r8, o_r37⟩ : ∃ (A_r37 : Option Addr) (c_r37 : Nat), x0_ 8 = .agg #[.int .i64 ch, .int .i64 ct, .string ⟨((packR ch ct rest ds (⟨15, 0, List.replicate (fillN (rest).length) 0⟩ : EPacket)).1.1).toArray⟩, .slice A_r37 ((packR ch ct rest ds (⟨15, 0, List.replicate (fillN (rest).length) 0⟩ : EPacket)).1.2.length) c_r37] ∧ ((w39).ownsRow w10.heap.size 3 1 (.slice A_r37 ((packR ch ct rest ds (⟨15, 0, List.replicate (fillN (rest).length) 0⟩ : EPacket)).1.2.length) c_r37) ((packR ch ct rest ds (⟨15, 0, List.replicate (fillN (rest).length) 0⟩ : EPacket)).1.2.length) (((packR ch ct rest ds (⟨15, 0, List.replicate (fillN (rest).length) 0⟩ : EPacket)).1.2).flatMap cI)) := hr0 8 (by decide) rfl rfl
          obtain ⟨q38, r10, g0_q38, h_q38⟩ : ∃ q38, x0_ 10 = .pointer (some ⟨q38, 0, none⟩) ∧ w10.heap.size ≤ q38 ∧ w39.heap[q38]? = some (.cells #[.int .i64 0, .int .i64 0, .string ⟨#[]⟩, .slice none 0 0] 28 (0, 0)) := hr0 10 (by decide) rfl rfl
          clear hr0
          have d_r37_q2 := own_ne_box o_r37 (lt_of_block h_q2)
          have d_r37_q4 := own_ne_box o_r37 (lt_of_block h_q4)
          have g_r37 : ∀ b, (A_r37 : Option Addr).map (·.block) = some b → w.heap.size ≤ b := fun b h => Nat.le_trans hB.size (own_row o_r37 b h).1
          replace o_r37 := own_base (base := w.heap.size) o_r37 hB.size
          have n_q2_q38 : NeB q2 q38 := ⟨fun e => by have := lt_of_block h_q2; omega⟩
          have n_q38_q2 := n_q2_q38.symm
          have n_q4_q38 : NeB q4 q38 := ⟨fun e => by have := lt_of_block h_q4; omega⟩
          have n_q38_q4 := n_q4_q38.symm
          have g_q38 : GeB w.heap.size q38 := ⟨Nat.le_trans hB.size g0_q38⟩
          clear g0_q38
          have d_r37_q38 := own_ne_cells o_r37 h_q38 (by decide)
          replace h_q2 := keep_below h_q2 hb_w39
          replace h_q4 := keep_below h_q4 hb_w39
          replace hB := hB.trans (hb_w39.mono hB.size)
          clear hb_w39
          intro op_ ho_ xv_ ρ hρ qx_ ql_ qk_
          obtain rfl := Option.some.inj ho_
          clear ho_
          have e5 : ρ (.tmp 5) = .pointer (some ⟨q38, 0, none⟩) := (hρ.out 10 5 rfl (by rw [hs.size]; decide) rfl).trans ((qx_ 10 (by decide) rfl rfl).trans r10)
          have e34 : ρ (.tmp 34) = .agg #[.int .i64 ch, .int .i64 ct, .string ⟨((packR ch ct rest ds (⟨15, 0, List.replicate (fillN (rest).length) 0⟩ : EPacket)).1.1).toArray⟩, .slice A_r37 ((packR ch ct rest ds (⟨15, 0, List.replicate (fillN (rest).length) 0⟩ : EPacket)).1.2.length) c_r37] := (hρ.out 8 34 rfl (by rw [hs.size]; decide) rfl).trans ((qx_ 8 (by decide) rfl rfl).trans r8)
          refine g_storeB rfl e5 e34 Try.sizeOf28 rfl rfl h_q38 rfl ?_
          intro w40 W_w40
          replace h_q2 := keep_wrote h_q2 W_w40 n_q38_q2
          replace h_q4 := keep_wrote h_q4 W_w40 n_q38_q4
          replace h_q38 := W_w40.here
          replace o_r37 := own_wrote o_r37 W_w40 d_r37_q38
          replace hB := below_wrote hB hB.size W_w40 g_q38.le
          clear W_w40
          clear e34 e5
          clear hρ qx_ ql_ qk_
          intro xv_ a20 hρ hsz hdf qx_ ql_ qk_ qlk_
          replace s2 : a20.eval (.tmp 2) = .pointer (some ⟨q4, 0, none⟩) := (hρ.inn 2 rfl).trans s2
          have s5 : a20.eval (.tmp 5) = .pointer (some ⟨q38, 0, none⟩) := (hρ.out 10 5 rfl (by rw [hs.size]; decide)).trans ((qx_ 10 (by decide) rfl rfl).trans r10)
          replace hs : St 37 a20 := ⟨hsz.trans hs.size, hdf.trans hs.nodef⟩
          clear hρ hsz hdf qx_ ql_ qk_ qlk_
          refine hK33 _ _ ?_
          clear hK33
          refine wp_seq_k fun K41 hK41 => ?_
          refine wp_region_lit ?_
          refine q_val rfl rfl ?_
          refine g_loadB rfl s5 Try.isAgg28 Try.sizeOf28 rfl h_q38 ?_
          intro a21 p21
          have s36 : a21.eval (.tmp 36) = .agg #[.int .i64 ch, .int .i64 ct, .string ⟨((packR ch ct rest ds (⟨15, 0, List.replicate (fillN (rest).length) 0⟩ : EPacket)).1.1).toArray⟩, .slice A_r37 ((packR ch ct rest ds (⟨15, 0, List.replicate (fillN (rest).length) 0⟩ : EPacket)).1.2.length) c_r37] := p21.at hs (by decide)
          replace hs := p21.st hs
          refine q_eff rfl rfl ?_
          refine g_storeB rfl ((p21.ne rfl).trans s2) s36 Try.sizeOf28 rfl rfl h_q4 rfl ?_
          intro w42 W_w42
          replace h_q2 := keep_wrote h_q2 W_w42 n_q4_q2
          replace h_q4 := W_w42.here
          replace h_q38 := keep_wrote h_q38 W_w42 n_q4_q38
          replace o_r37 := own_wrote o_r37 W_w42 d_r37_q4
          replace hB := below_wrote hB hB.size W_w42 g_q4.le
          clear W_w42
          refine wpList_nil ?_
          replace s2 : a21.eval (.tmp 2) = .pointer (some ⟨q4, 0, none⟩) := (p21.ne rfl).trans s2
          refine hK41 _ _ ?_
          clear hK41
          refine wp_ret ?_
          try dsimp only [Exit.then, Exit.inBlock]
          refine ret1 hs Try.results18 (res_cell s2 h_q4 Try.isAgg28 Try.sizeOf28 rfl) ?_
          refine ⟨_, rfl, ?_, hB⟩
          rw [fillR_yes h1 (by omega) hfk]
          exact ⟨_, _, _, rfl, rfl, o_r37⟩
end Go.Proofs.Ytmcgmiapbdoocaa
