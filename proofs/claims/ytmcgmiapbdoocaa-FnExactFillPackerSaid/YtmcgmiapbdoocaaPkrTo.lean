/- Contracts: the statements' helpers on packers: made, measured, held one against the other. No condition. -/
import Derived.Test.YtmcgmiapbdoocaaInts
import Derived.Test.YtmcgmiapbdoocaaFlowNum
namespace Go.Proofs.Ytmcgmiapbdoocaa
open Go.RowKit

theorem g_neqS {P : Program} {o : Oper} {ρ : Operand → Value} {w : World} {K : Value → World → Prop} {x y : Operand} {T T' : TypeId} {l : ByteArray} (ho : o.op = .binOp .neq T x y T') (hx : ρ x = .string l) (hy : ρ y = .string l) (h : K (.bool false) w) : goesR P o ρ w K := by
  unfold goesR execOp
  simp only [ho]
  go_simp
  simpa using h
set_option maxRecDepth 100000 in
theorem toPacker_any (ch ct : Int) (rest : List UInt8) (B : Option Addr) (m dp : Nat) (ds : List Int) (w : World) (hm : ds.length = m) (hbm : m ≤ 1048576) (hr_d : Rd w 1 B m (ds.flatMap cI)) :
    Calls Try.prog 19 #[.agg #[.int .i64 ch, .int .i64 ct, .string ⟨rest.toArray⟩, .slice B m dp]] w fun e w' => ∃ g, e = .returned (.agg #[.int .i64 ch, .int .i64 ct, .string ⟨rest.toArray⟩, .slice (some ⟨g, 0, none⟩) m m]) ∧ w'.ownsRow w.heap.size 3 1 (.slice (some ⟨g, 0, none⟩) m m) m (ds.flatMap cI) ∧ Below w.heap.size w w' := by
  subst hm
  refine enter 18 Try.func19 rfl rfl (Nat.le_of_ble_eq_true rfl) ?_
  intro a0 hs hargs
  have s0 : a0.eval (.tmp 0) = .agg #[.int .i64 ch, .int .i64 ct, .string ⟨(rest).toArray⟩, .slice B ds.length dp] := hargs 0 _ rfl
  clear hargs
  have hB : Below w.heap.size w w := Below.refl _ _
  refine wp_seq_k fun K1 hK1 => ?_
  refine wp_region_lit ?_
  refine q_val rfl rfl ?_
  refine g_box rfl s0 rfl ?_
  intro q2 w3 N_q2
  have g_q2 : GeB w.heap.size q2 := ⟨Nat.le_trans hB.size N_q2.lo⟩
  replace hB := below_new hB hB.size N_q2
  have h_q2 := N_q2.here
  clear N_q2
  intro a1 p1
  have s1 : a1.eval (.tmp 1) = .pointer (some ⟨q2, 0, none⟩) := p1.at hs (by decide)
  replace hs := p1.st hs
  refine q_val rfl rfl ?_
  refine g_alloc rfl Try.zeroValue28 rfl ?_
  intro q4 w5 N_q4
  have n_q2_q4 := N_q4.ne ⟨lt_of_block h_q2⟩
  have n_q4_q2 := n_q2_q4.symm
  have g_q4 : GeB w.heap.size q4 := ⟨Nat.le_trans hB.size N_q4.lo⟩
  replace h_q2 := keep_below h_q2 N_q4.below
  replace hB := below_new hB hB.size N_q4
  have h_q4 := N_q4.here
  clear N_q4
  intro a2 p2
  have s2 : a2.eval (.tmp 2) = .pointer (some ⟨q4, 0, none⟩) := p2.at hs (by decide)
  replace hs := p2.st hs
  refine wpList_nil ?_
  replace s1 : a2.eval (.tmp 1) = .pointer (some ⟨q2, 0, none⟩) := (p2.ne rfl).trans s1
  refine hK1 _ _ ?_
  clear hK1
  refine wp_seq_k fun K6 hK6 => ?_
  refine wp_region_lit ?_
  refine q_val rfl rfl ?_
  refine g_alloc rfl Try.zeroValue28 rfl ?_
  intro q7 w8 N_q7
  have n_q2_q7 := N_q7.ne ⟨lt_of_block h_q2⟩
  have n_q7_q2 := n_q2_q7.symm
  have n_q4_q7 := N_q7.ne ⟨lt_of_block h_q4⟩
  have n_q7_q4 := n_q4_q7.symm
  have g_q7 : GeB w.heap.size q7 := ⟨Nat.le_trans hB.size N_q7.lo⟩
  replace h_q2 := keep_below h_q2 N_q7.below
  replace h_q4 := keep_below h_q4 N_q7.below
  replace hB := below_new hB hB.size N_q7
  have h_q7 := N_q7.here
  clear N_q7
  intro a3 p3
  have s3 : a3.eval (.tmp 3) = .pointer (some ⟨q7, 0, none⟩) := p3.at hs (by decide)
  replace hs := p3.st hs
  refine wpList_nil ?_
  replace s1 : a3.eval (.tmp 1) = .pointer (some ⟨q2, 0, none⟩) := (p3.ne rfl).trans s1
  replace s2 : a3.eval (.tmp 2) = .pointer (some ⟨q4, 0, none⟩) := (p3.ne rfl).trans s2
  refine hK6 _ _ ?_
  clear hK6
  refine wp_seq_k fun K9 hK9 => ?_
  refine wp_region_lit ?_
  refine q_val rfl rfl ?_
  refine g_field (r := 0) rfl s1 Try.underlying48 rfl (fun w => Try.sizeOf3 w) rfl rfl ?_
  intro a4 p4
  have s4 : a4.eval (.tmp 4) = .pointer (some ⟨q2, 0, none⟩) := p4.at hs (by decide)
  replace hs := p4.st hs
  refine q_val rfl rfl ?_
  refine g_load rfl s4 Try.isAgg3 (box_cell h_q2 rfl) ?_
  intro a5 p5
  have s5 : a5.eval (.tmp 5) = .int .i64 ch := p5.at hs (by decide)
  replace hs := p5.st hs
  refine q_val rfl rfl ?_
  refine g_field (r := 0) rfl (((p5.ne rfl).trans (p4.ne rfl)).trans s3) Try.underlying28 rfl (fun w => Try.sizeOf3 w) rfl rfl ?_
  intro a6 p6
  have s6 : a6.eval (.tmp 6) = .pointer (some ⟨q7, 0, none⟩) := p6.at hs (by decide)
  replace hs := p6.st hs
  refine q_eff rfl rfl ?_
  refine g_store (cs' := #[.int .i64 ch, .int .i64 0, .string ⟨#[]⟩, .slice none 0 0]) rfl s6 ((p6.ne rfl).trans s5) Try.sizeOf3 rfl h_q7 (Nat.le_of_ble_eq_true rfl) rfl ?_
  intro w10 W_w10
  replace h_q2 := keep_wrote h_q2 W_w10 n_q7_q2
  replace h_q4 := keep_wrote h_q4 W_w10 n_q7_q4
  replace h_q7 := W_w10.here
  replace hB := below_wrote hB hB.size W_w10 g_q7.le
  clear W_w10
  refine wpList_nil ?_
  replace s1 : a6.eval (.tmp 1) = .pointer (some ⟨q2, 0, none⟩) := ((p6.ne rfl).trans ((p5.ne rfl).trans (p4.ne rfl))).trans s1
  replace s2 : a6.eval (.tmp 2) = .pointer (some ⟨q4, 0, none⟩) := ((p6.ne rfl).trans ((p5.ne rfl).trans (p4.ne rfl))).trans s2
  replace s3 : a6.eval (.tmp 3) = .pointer (some ⟨q7, 0, none⟩) := ((p6.ne rfl).trans ((p5.ne rfl).trans (p4.ne rfl))).trans s3
  refine hK9 _ _ ?_
  clear hK9
  refine wp_seq_k fun K11 hK11 => ?_
  refine wp_region_lit ?_
  refine q_val rfl rfl ?_
  refine g_field (r := 1) rfl s1 Try.underlying48 rfl (fun w => Try.sizeOf3 w) rfl rfl ?_
  intro a7 p7
  have s7 : a7.eval (.tmp 7) = .pointer (some ⟨q2, 1, none⟩) := p7.at hs (by decide)
  replace hs := p7.st hs
  refine q_val rfl rfl ?_
  refine g_load rfl s7 Try.isAgg3 (box_cell h_q2 rfl) ?_
  intro a8 p8
  have s8 : a8.eval (.tmp 8) = .int .i64 ct := p8.at hs (by decide)
  replace hs := p8.st hs
  refine q_val rfl rfl ?_
  refine g_field (r := 1) rfl (((p8.ne rfl).trans (p7.ne rfl)).trans s3) Try.underlying28 rfl (fun w => Try.sizeOf3 w) rfl rfl ?_
  intro a9 p9
  have s9 : a9.eval (.tmp 9) = .pointer (some ⟨q7, 1, none⟩) := p9.at hs (by decide)
  replace hs := p9.st hs
  refine q_eff rfl rfl ?_
  refine g_store (cs' := #[.int .i64 ch, .int .i64 ct, .string ⟨#[]⟩, .slice none 0 0]) rfl s9 ((p9.ne rfl).trans s8) Try.sizeOf3 rfl h_q7 (Nat.le_of_ble_eq_true rfl) rfl ?_
  intro w12 W_w12
  replace h_q2 := keep_wrote h_q2 W_w12 n_q7_q2
  replace h_q4 := keep_wrote h_q4 W_w12 n_q7_q4
  replace h_q7 := W_w12.here
  replace hB := below_wrote hB hB.size W_w12 g_q7.le
  clear W_w12
  refine wpList_nil ?_
  replace s1 : a9.eval (.tmp 1) = .pointer (some ⟨q2, 0, none⟩) := ((p9.ne rfl).trans ((p8.ne rfl).trans (p7.ne rfl))).trans s1
  replace s2 : a9.eval (.tmp 2) = .pointer (some ⟨q4, 0, none⟩) := ((p9.ne rfl).trans ((p8.ne rfl).trans (p7.ne rfl))).trans s2
  replace s3 : a9.eval (.tmp 3) = .pointer (some ⟨q7, 0, none⟩) := ((p9.ne rfl).trans ((p8.ne rfl).trans (p7.ne rfl))).trans s3
  refine hK11 _ _ ?_
  clear hK11
  refine wp_seq_k fun K13 hK13 => ?_
  refine wp_region_lit ?_
  refine q_val rfl rfl ?_
  refine g_field (r := 2) rfl s1 Try.underlying48 rfl (fun w => Try.sizeOf9 w) rfl rfl ?_
  intro a10 p10
  have s10 : a10.eval (.tmp 10) = .pointer (some ⟨q2, 2, none⟩) := p10.at hs (by decide)
  replace hs := p10.st hs
  refine q_val rfl rfl ?_
  refine g_load rfl s10 Try.isAgg9 (box_cell h_q2 rfl) ?_
  intro a11 p11
  have s11 : a11.eval (.tmp 11) = .string ⟨(rest).toArray⟩ := p11.at hs (by decide)
  replace hs := p11.st hs
  refine q_val rfl rfl ?_
  refine g_field (r := 2) rfl (((p11.ne rfl).trans (p10.ne rfl)).trans s3) Try.underlying28 rfl (fun w => Try.sizeOf9 w) rfl rfl ?_
  intro a12 p12
  have s12 : a12.eval (.tmp 12) = .pointer (some ⟨q7, 2, none⟩) := p12.at hs (by decide)
  replace hs := p12.st hs
  refine q_eff rfl rfl ?_
  refine g_store (cs' := #[.int .i64 ch, .int .i64 ct, .string ⟨(rest).toArray⟩, .slice none 0 0]) rfl s12 ((p12.ne rfl).trans s11) Try.sizeOf9 rfl h_q7 (Nat.le_of_ble_eq_true rfl) rfl ?_
  intro w14 W_w14
  replace h_q2 := keep_wrote h_q2 W_w14 n_q7_q2
  replace h_q4 := keep_wrote h_q4 W_w14 n_q7_q4
  replace h_q7 := W_w14.here
  replace hB := below_wrote hB hB.size W_w14 g_q7.le
  clear W_w14
  refine wpList_nil ?_
  replace s1 : a12.eval (.tmp 1) = .pointer (some ⟨q2, 0, none⟩) := ((p12.ne rfl).trans ((p11.ne rfl).trans (p10.ne rfl))).trans s1
  replace s2 : a12.eval (.tmp 2) = .pointer (some ⟨q4, 0, none⟩) := ((p12.ne rfl).trans ((p11.ne rfl).trans (p10.ne rfl))).trans s2
  replace s3 : a12.eval (.tmp 3) = .pointer (some ⟨q7, 0, none⟩) := ((p12.ne rfl).trans ((p11.ne rfl).trans (p10.ne rfl))).trans s3
  refine hK13 _ _ ?_
  clear hK13
  refine wp_seq_k fun K15 hK15 => ?_
  refine wp_region_lit ?_
  refine q_val rfl rfl ?_
  refine g_field (r := 3) rfl s1 Try.underlying48 rfl (fun w => Try.sizeOf26 w) rfl rfl ?_
  intro a13 p13
  have s13 : a13.eval (.tmp 13) = .pointer (some ⟨q2, 3, none⟩) := p13.at hs (by decide)
  replace hs := p13.st hs
  refine q_val rfl rfl ?_
  refine g_load rfl s13 Try.isAgg26 (box_cell h_q2 rfl) ?_
  intro a14 p14
  have s14 : a14.eval (.tmp 14) = .slice B ds.length dp := p14.at hs (by decide)
  replace hs := p14.st hs
  refine q_val rfl rfl ?_
  refine g_call rfl rfl Try.call43 (arr1 s14) ?_
  refine (toIntS_any _ _ _ ds _ rfl (by omega) (hr_d.below hB)).mono ?_
  rintro e w17 ⟨g16, rfl, o_x16, hb16⟩
  refine ⟨_, rfl, ?_⟩
  have d_x16_q2 := own_ne_box o_x16 (lt_of_block h_q2)
  have d_x16_q4 := own_ne_box o_x16 (lt_of_block h_q4)
  have d_x16_q7 := own_ne_box o_x16 (lt_of_block h_q7)
  have g_x16 : ∀ b, ((some ⟨g16, 0, none⟩) : Option Addr).map (·.block) = some b → w.heap.size ≤ b := fun b h => Nat.le_trans hB.size (own_row o_x16 b h).1
  replace o_x16 := own_base (base := w.heap.size) o_x16 hB.size
  replace h_q2 := keep_below h_q2 hb16
  replace h_q4 := keep_below h_q4 hb16
  replace h_q7 := keep_below h_q7 hb16
  replace hB := hB.trans (hb16.mono hB.size)
  clear hb16
  intro a15 p15
  have s15 : a15.eval (.tmp 15) = .slice (some ⟨g16, 0, none⟩) ds.length ds.length := p15.at hs (by decide)
  replace hs := p15.st hs
  refine q_val rfl rfl ?_
  refine g_field (r := 3) rfl (((p15.ne rfl).trans ((p14.ne rfl).trans (p13.ne rfl))).trans s3) Try.underlying28 rfl (fun w => Try.sizeOf26 w) rfl rfl ?_
  intro a16 p16
  have s16 : a16.eval (.tmp 16) = .pointer (some ⟨q7, 3, none⟩) := p16.at hs (by decide)
  replace hs := p16.st hs
  refine q_eff rfl rfl ?_
  refine g_store (cs' := #[.int .i64 ch, .int .i64 ct, .string ⟨(rest).toArray⟩, .slice (some ⟨g16, 0, none⟩) ds.length ds.length]) rfl s16 ((p16.ne rfl).trans s15) Try.sizeOf26 rfl h_q7 (Nat.le_of_ble_eq_true rfl) rfl ?_
  intro w18 W_w18
  replace h_q2 := keep_wrote h_q2 W_w18 n_q7_q2
  replace h_q4 := keep_wrote h_q4 W_w18 n_q7_q4
  replace h_q7 := W_w18.here
  replace o_x16 := own_wrote o_x16 W_w18 d_x16_q7
  replace hB := below_wrote hB hB.size W_w18 g_q7.le
  clear W_w18
  refine wpList_nil ?_
  replace s2 : a16.eval (.tmp 2) = .pointer (some ⟨q4, 0, none⟩) := ((p16.ne rfl).trans ((p15.ne rfl).trans ((p14.ne rfl).trans (p13.ne rfl)))).trans s2
  replace s3 : a16.eval (.tmp 3) = .pointer (some ⟨q7, 0, none⟩) := ((p16.ne rfl).trans ((p15.ne rfl).trans ((p14.ne rfl).trans (p13.ne rfl)))).trans s3
  refine hK15 _ _ ?_
  clear hK15
  refine wp_seq_k fun K19 hK19 => ?_
  refine wp_region_lit ?_
  refine q_val rfl rfl ?_
  refine g_loadB rfl s3 Try.isAgg28 Try.sizeOf28 rfl h_q7 ?_
  intro a17 p17
  have s17 : a17.eval (.tmp 17) = .agg #[.int .i64 ch, .int .i64 ct, .string ⟨(rest).toArray⟩, .slice (some ⟨g16, 0, none⟩) ds.length ds.length] := p17.at hs (by decide)
  replace hs := p17.st hs
  refine q_eff rfl rfl ?_
  refine g_storeB rfl ((p17.ne rfl).trans s2) s17 Try.sizeOf28 rfl rfl h_q4 rfl ?_
  intro w20 W_w20
  replace h_q2 := keep_wrote h_q2 W_w20 n_q4_q2
  replace h_q4 := W_w20.here
  replace h_q7 := keep_wrote h_q7 W_w20 n_q4_q7
  replace o_x16 := own_wrote o_x16 W_w20 d_x16_q4
  replace hB := below_wrote hB hB.size W_w20 g_q4.le
  clear W_w20
  refine wpList_nil ?_
  replace s2 : a17.eval (.tmp 2) = .pointer (some ⟨q4, 0, none⟩) := (p17.ne rfl).trans s2
  refine hK19 _ _ ?_
  clear hK19
  refine wp_ret ?_
  try dsimp only [Exit.then, Exit.inBlock]
  refine ret1 hs Try.results19 (res_cell s2 h_q4 Try.isAgg28 Try.sizeOf28 rfl) ?_
  exact ⟨_, rfl, o_x16, hB⟩
set_option maxRecDepth 100000 in
theorem szPacker_any (ch ct : Int) (rest : List UInt8) (B : Option Addr) (m dp : Nat) (ds : List Int) (left : Int) (w : World) (hm : ds.length = m) (hx : Txt rest) (hbm : m ≤ 9223372036854775807) (h0 : 0 ≤ left) (h1 : left ≤ 1048576) :
    Calls Try.prog 17 #[.agg #[.int .i64 ch, .int .i64 ct, .string ⟨rest.toArray⟩, .slice B m dp], .int .i64 left] w fun e w' => ∃ q : Int, e = .returned (.int .i64 q) ∧ -1 ≤ q ∧ q ≤ left ∧ (0 ≤ q → rest.length ≤ 1048576 ∧ m ≤ 1048576) ∧ Below w.heap.size w w' := by
  subst hm
  unfold Txt at hx
  refine enter 19 Try.func17 rfl rfl (Nat.le_of_ble_eq_true rfl) ?_
  intro a0 hs hargs
  have s0 : a0.eval (.tmp 0) = .agg #[.int .i64 ch, .int .i64 ct, .string ⟨(rest).toArray⟩, .slice B ds.length dp] := hargs 0 _ rfl
  have s1 : a0.eval (.tmp 1) = .int .i64 left := hargs 1 _ rfl
  clear hargs
  have hB : Below w.heap.size w w := Below.refl _ _
  refine wp_seq_k fun K1 hK1 => ?_
  refine wp_region_lit ?_
  refine q_val rfl rfl ?_
  refine g_box rfl s0 rfl ?_
  intro q2 w3 N_q2
  have g_q2 : GeB w.heap.size q2 := ⟨Nat.le_trans hB.size N_q2.lo⟩
  replace hB := below_new hB hB.size N_q2
  have h_q2 := N_q2.here
  clear N_q2
  intro a1 p1
  have s2 : a1.eval (.tmp 2) = .pointer (some ⟨q2, 0, none⟩) := p1.at hs (by decide)
  replace hs := p1.st hs
  refine q_val rfl rfl ?_
  refine g_assign rfl rfl ?_
  intro a2 p2
  have s4 : a2.eval (.tmp 4) = .int .i64 0 := p2.at hs (by decide)
  replace hs := p2.st hs
  refine wpList_nil ?_
  replace s1 : a2.eval (.tmp 1) = .int .i64 left := ((p2.ne rfl).trans (p1.ne rfl)).trans s1
  replace s2 : a2.eval (.tmp 2) = .pointer (some ⟨q2, 0, none⟩) := (p2.ne rfl).trans s2
  refine hK1 _ _ ?_
  clear hK1
  refine wp_seq_k fun K4 hK4 => ?_
  refine wp_region_lit ?_
  refine q_val rfl rfl ?_
  refine g_move rfl s1 ?_
  intro a3 p3
  have s5 : a3.eval (.tmp 5) = .int .i64 left := p3.at hs (by decide)
  replace hs := p3.st hs
  refine q_val rfl rfl ?_
  refine g_field (r := 2) rfl ((p3.ne rfl).trans s2) Try.underlying48 rfl (fun w => Try.sizeOf9 w) rfl rfl ?_
  intro a4 p4
  have s6 : a4.eval (.tmp 6) = .pointer (some ⟨q2, 2, none⟩) := p4.at hs (by decide)
  replace hs := p4.st hs
  refine q_val rfl rfl ?_
  refine g_load rfl s6 Try.isAgg9 (box_cell h_q2 rfl) ?_
  intro a5 p5
  have s7 : a5.eval (.tmp 7) = .string ⟨(rest).toArray⟩ := p5.at hs (by decide)
  replace hs := p5.st hs
  refine q_val rfl rfl ?_
  refine g_lenS rfl Try.underlying9 s7 ?_
  intro a6 p6
  have s8 : a6.eval (.tmp 8) = .int .i64 (((rest).length : Nat) : Int) := p6.at hs (by decide)
  replace hs := p6.st hs
  refine q_val rfl rfl ?_
  refine g_sub (r := left - (((rest).length : Nat) : Int)) rfl (((p6.ne rfl).trans ((p5.ne rfl).trans (p4.ne rfl))).trans s5) s8 (by omega) (by omega) ?_
  intro a7 p7
  have s9 : a7.eval (.tmp 9) = .int .i64 (left - (((rest).length : Nat) : Int)) := p7.at hs (by decide)
  replace hs := p7.st hs
  refine q_val rfl rfl ?_
  refine g_assign rfl s9 ?_
  intro a8 p8
  have s1 : a8.eval (.tmp 1) = .int .i64 (left - (((rest).length : Nat) : Int)) := p8.at hs (by decide)
  replace hs := p8.st hs
  refine wpList_nil ?_
  replace s2 : a8.eval (.tmp 2) = .pointer (some ⟨q2, 0, none⟩) := ((p8.ne rfl).trans ((p7.ne rfl).trans ((p6.ne rfl).trans ((p5.ne rfl).trans ((p4.ne rfl).trans (p3.ne rfl)))))).trans s2
  replace s4 : a8.eval (.tmp 4) = .int .i64 0 := ((p8.ne rfl).trans ((p7.ne rfl).trans ((p6.ne rfl).trans ((p5.ne rfl).trans ((p4.ne rfl).trans (p3.ne rfl)))))).trans s4
  refine hK4 _ _ ?_
  clear hK4
  refine wp_seq_k fun K5 hK5 => ?_
  refine wp_seq_k fun K6 hK6 => ?_
  refine wp_region_lit ?_
  refine q_val rfl rfl ?_
  refine g_move rfl s1 ?_
  intro a9 p9
  have s10 : a9.eval (.tmp 10) = .int .i64 (left - (((rest).length : Nat) : Int)) := p9.at hs (by decide)
  replace hs := p9.st hs
  refine q_val rfl rfl ?_
  refine g_lss rfl s10 rfl ?_
  intro a10 p10
  have s11 : a10.eval (.tmp 11) = .bool (decide (left - (((rest).length : Nat) : Int) < 0)) := p10.at hs (by decide)
  replace hs := p10.st hs
  refine wpList_nil ?_
  replace s1 : a10.eval (.tmp 1) = .int .i64 (left - (((rest).length : Nat) : Int)) := ((p10.ne rfl).trans (p9.ne rfl)).trans s1
  replace s2 : a10.eval (.tmp 2) = .pointer (some ⟨q2, 0, none⟩) := ((p10.ne rfl).trans (p9.ne rfl)).trans s2
  replace s4 : a10.eval (.tmp 4) = .int .i64 0 := ((p10.ne rfl).trans (p9.ne rfl)).trans s4
  refine hK6 _ _ ?_
  clear hK6
  by_cases hl : left - (((rest).length : Nat) : Int) < 0
  · replace s11 := s11.trans (congrArg Value.bool (decide_eq_true hl))
    replace s11 : a10.eval (.tmp 11) = .bool true := s11
    refine c_true s11 ?_
    refine wp_seq_k fun K7 hK7 => ?_
    refine wp_region_lit ?_
    refine q_val rfl rfl ?_
    refine g_assign rfl rfl ?_
    intro a11 p11
    have s4 : a11.eval (.tmp 4) = .int .i64 (-1) := p11.at hs (by decide)
    replace hs := p11.st hs
    refine wpList_nil ?_
    replace s1 : a11.eval (.tmp 1) = .int .i64 (left - (((rest).length : Nat) : Int)) := (p11.ne rfl).trans s1
    replace s2 : a11.eval (.tmp 2) = .pointer (some ⟨q2, 0, none⟩) := (p11.ne rfl).trans s2
    refine hK7 _ _ ?_
    clear hK7
    refine wp_ret ?_
    try dsimp only [Exit.then, Exit.inBlock]
    refine ret1 hs Try.results17 (res_tmp s4) ?_
    exact ⟨_, rfl, by omega, by omega, fun h => by first | (have := hq2 (by omega); omega) | omega, hB⟩
  · replace s11 := s11.trans (congrArg Value.bool (decide_eq_false hl))
    replace s11 : a10.eval (.tmp 11) = .bool false := s11
    refine c_false s11 ?_
    refine wp_skip ?_
    refine hK5 _ _ ?_
    clear hK5
    refine wp_seq_k fun K8 hK8 => ?_
    refine wp_region_lit ?_
    refine q_val rfl rfl ?_
    refine g_field (r := 3) rfl s2 Try.underlying48 rfl (fun w => Try.sizeOf26 w) rfl rfl ?_
    intro a11 p11
    have s12 : a11.eval (.tmp 12) = .pointer (some ⟨q2, 3, none⟩) := p11.at hs (by decide)
    replace hs := p11.st hs
    refine q_val rfl rfl ?_
    refine g_load rfl s12 Try.isAgg26 (box_cell h_q2 rfl) ?_
    intro a12 p12
    have s13 : a12.eval (.tmp 13) = .slice B ds.length dp := p12.at hs (by decide)
    replace hs := p12.st hs
    refine q_val rfl rfl ?_
    refine g_move rfl (((p12.ne rfl).trans (p11.ne rfl)).trans s1) ?_
    intro a13 p13
    have s14 : a13.eval (.tmp 14) = .int .i64 (left - (((rest).length : Nat) : Int)) := p13.at hs (by decide)
    replace hs := p13.st hs
    refine q_val rfl rfl ?_
    refine g_call rfl rfl Try.call39 (arr2 ((p13.ne rfl).trans s13) s14) ?_
    refine (szIntS_any _ _ _ _ _ (by omega) (by omega) (by omega)).mono ?_
    rintro e w' ⟨qz9, rfl, hq0, hq1, hq2, rfl⟩
    refine ⟨_, rfl, ?_⟩
    intro a14 p14
    have s15 : a14.eval (.tmp 15) = .int .i64 qz9 := p14.at hs (by decide)
    replace hs := p14.st hs
    refine q_val rfl rfl ?_
    refine g_assign rfl s15 ?_
    intro a15 p15
    have s1 : a15.eval (.tmp 1) = .int .i64 qz9 := p15.at hs (by decide)
    replace hs := p15.st hs
    refine wpList_nil ?_
    replace s4 : a15.eval (.tmp 4) = .int .i64 0 := ((p15.ne rfl).trans ((p14.ne rfl).trans ((p13.ne rfl).trans ((p12.ne rfl).trans (p11.ne rfl))))).trans s4
    refine hK8 _ _ ?_
    clear hK8
    refine wp_seq_k fun K10 hK10 => ?_
    refine wp_seq_k fun K11 hK11 => ?_
    refine wp_region_lit ?_
    refine q_val rfl rfl ?_
    refine g_move rfl s1 ?_
    intro a16 p16
    have s16 : a16.eval (.tmp 16) = .int .i64 qz9 := p16.at hs (by decide)
    replace hs := p16.st hs
    refine q_val rfl rfl ?_
    refine g_lss rfl s16 rfl ?_
    intro a17 p17
    have s17 : a17.eval (.tmp 17) = .bool (decide (qz9 < 0)) := p17.at hs (by decide)
    replace hs := p17.st hs
    refine wpList_nil ?_
    replace s1 : a17.eval (.tmp 1) = .int .i64 qz9 := ((p17.ne rfl).trans (p16.ne rfl)).trans s1
    replace s4 : a17.eval (.tmp 4) = .int .i64 0 := ((p17.ne rfl).trans (p16.ne rfl)).trans s4
    refine hK11 _ _ ?_
    clear hK11
    by_cases hc12 : qz9 < 0
    · replace s17 := s17.trans (congrArg Value.bool (decide_eq_true hc12))
      replace s17 : a17.eval (.tmp 17) = .bool true := s17
      refine c_true s17 ?_
      refine wp_seq_k fun K13 hK13 => ?_
      refine wp_region_lit ?_
      refine q_val rfl rfl ?_
      refine g_assign rfl rfl ?_
      intro a18 p18
      have s4 : a18.eval (.tmp 4) = .int .i64 (-1) := p18.at hs (by decide)
      replace hs := p18.st hs
      refine wpList_nil ?_
      replace s1 : a18.eval (.tmp 1) = .int .i64 qz9 := (p18.ne rfl).trans s1
      refine hK13 _ _ ?_
      clear hK13
      refine wp_ret ?_
      try dsimp only [Exit.then, Exit.inBlock]
      refine ret1 hs Try.results17 (res_tmp s4) ?_
      exact ⟨_, rfl, by omega, by omega, fun h => by first | (have := hq2 (by omega); omega) | omega, hB⟩
    · replace s17 := s17.trans (congrArg Value.bool (decide_eq_false hc12))
      replace s17 : a17.eval (.tmp 17) = .bool false := s17
      refine c_false s17 ?_
      refine wp_skip ?_
      refine hK10 _ _ ?_
      clear hK10
      refine wp_seq_k fun K14 hK14 => ?_
      refine wp_region_lit ?_
      refine q_val rfl rfl ?_
      refine g_move rfl s1 ?_
      intro a18 p18
      have s18 : a18.eval (.tmp 18) = .int .i64 qz9 := p18.at hs (by decide)
      replace hs := p18.st hs
      refine q_val rfl rfl ?_
      refine g_assign rfl s18 ?_
      intro a19 p19
      have s4 : a19.eval (.tmp 4) = .int .i64 qz9 := p19.at hs (by decide)
      replace hs := p19.st hs
      refine wpList_nil ?_
      refine hK14 _ _ ?_
      clear hK14
      refine wp_ret ?_
      try dsimp only [Exit.then, Exit.inBlock]
      refine ret1 hs Try.results17 (res_tmp s4) ?_
      exact ⟨_, rfl, by omega, by omega, fun h => by first | (have := hq2 (by omega); omega) | omega, hB⟩
theorem eqIntS_same (A B : Option Addr) (n m c d : Nat) (zs : List Int) (w : World) (hn : zs.length = n) (hm : zs.length = m) (hb : n ≤ 1048577) (hr : Rd w 1 A n (zs.flatMap cI)) (hs : Rd w 1 B m (zs.flatMap cI)) :
    Calls Try.prog 44 #[.slice A n c, .slice B m d] w fun e w' => e = .returned (.bool true) ∧ Below w.heap.size w w' :=
  (eqIntS_any A B n m c d zs zs w hn hm (by omega) (by omega) hr hs).mono fun _ _ ⟨he, hb⟩ => ⟨by rw [he, decide_eq_true rfl], hb⟩
set_option maxRecDepth 100000 in
theorem eqPacker_same (ch ct : Int) (rest : List UInt8) (B B2 : Option Addr) (m dp m2 dp2 : Nat) (ds : List Int) (w : World) (hm : ds.length = m) (hm2 : ds.length = m2) (hbm : m ≤ 1048577) (hr_d : Rd w 1 B m (ds.flatMap cI)) (hr_f : Rd w 1 B2 m2 (ds.flatMap cI)) :
    Calls Try.prog 20 #[.agg #[.int .i64 ch, .int .i64 ct, .string ⟨rest.toArray⟩, .slice B m dp], .agg #[.int .i64 ch, .int .i64 ct, .string ⟨rest.toArray⟩, .slice B2 m2 dp2]] w fun e w' => e = .returned (.bool true) ∧ Below w.heap.size w w' := by
  refine enter 26 Try.func20 rfl rfl (Nat.le_of_ble_eq_true rfl) ?_
  intro a0 hs hargs
  have s0 : a0.eval (.tmp 0) = .agg #[.int .i64 ch, .int .i64 ct, .string ⟨(rest).toArray⟩, .slice B m dp] := hargs 0 _ rfl
  have s1 : a0.eval (.tmp 1) = .agg #[.int .i64 ch, .int .i64 ct, .string ⟨(rest).toArray⟩, .slice B2 m2 dp2] := hargs 1 _ rfl
  clear hargs
  have hB : Below w.heap.size w w := Below.refl _ _
  refine wp_seq_k fun K1 hK1 => ?_
  refine wp_region_lit ?_
  refine q_val rfl rfl ?_
  refine g_box rfl s0 rfl ?_
  intro q2 w3 N_q2
  have g_q2 : GeB w.heap.size q2 := ⟨Nat.le_trans hB.size N_q2.lo⟩
  replace hB := below_new hB hB.size N_q2
  have h_q2 := N_q2.here
  clear N_q2
  intro a1 p1
  have s2 : a1.eval (.tmp 2) = .pointer (some ⟨q2, 0, none⟩) := p1.at hs (by decide)
  replace hs := p1.st hs
  refine q_val rfl rfl ?_
  refine g_box rfl ((p1.ne rfl).trans s1) rfl ?_
  intro q4 w5 N_q4
  have n_q2_q4 := N_q4.ne ⟨lt_of_block h_q2⟩
  have n_q4_q2 := n_q2_q4.symm
  have g_q4 : GeB w.heap.size q4 := ⟨Nat.le_trans hB.size N_q4.lo⟩
  replace h_q2 := keep_below h_q2 N_q4.below
  replace hB := below_new hB hB.size N_q4
  have h_q4 := N_q4.here
  clear N_q4
  intro a2 p2
  have s3 : a2.eval (.tmp 3) = .pointer (some ⟨q4, 0, none⟩) := p2.at hs (by decide)
  replace hs := p2.st hs
  refine q_val rfl rfl ?_
  refine g_assign rfl rfl ?_
  intro a3 p3
  have s4 : a3.eval (.tmp 4) = .bool false := p3.at hs (by decide)
  replace hs := p3.st hs
  refine wpList_nil ?_
  replace s2 : a3.eval (.tmp 2) = .pointer (some ⟨q2, 0, none⟩) := ((p3.ne rfl).trans (p2.ne rfl)).trans s2
  replace s3 : a3.eval (.tmp 3) = .pointer (some ⟨q4, 0, none⟩) := (p3.ne rfl).trans s3
  refine hK1 _ _ ?_
  clear hK1
  refine wp_seq_k fun K6 hK6 => ?_
  refine wp_seq_k fun K7 hK7 => ?_
  refine wp_region_lit ?_
  refine q_val rfl rfl ?_
  refine g_field (r := 0) rfl s2 Try.underlying28 rfl (fun w => Try.sizeOf3 w) rfl rfl ?_
  intro a4 p4
  have s5 : a4.eval (.tmp 5) = .pointer (some ⟨q2, 0, none⟩) := p4.at hs (by decide)
  replace hs := p4.st hs
  refine q_val rfl rfl ?_
  refine g_load rfl s5 Try.isAgg3 (box_cell h_q2 rfl) ?_
  intro a5 p5
  have s6 : a5.eval (.tmp 6) = .int .i64 ch := p5.at hs (by decide)
  replace hs := p5.st hs
  refine q_val rfl rfl ?_
  refine g_field (r := 0) rfl (((p5.ne rfl).trans (p4.ne rfl)).trans s3) Try.underlying28 rfl (fun w => Try.sizeOf3 w) rfl rfl ?_
  intro a6 p6
  have s7 : a6.eval (.tmp 7) = .pointer (some ⟨q4, 0, none⟩) := p6.at hs (by decide)
  replace hs := p6.st hs
  refine q_val rfl rfl ?_
  refine g_load rfl s7 Try.isAgg3 (box_cell h_q4 rfl) ?_
  intro a7 p7
  have s8 : a7.eval (.tmp 8) = .int .i64 ch := p7.at hs (by decide)
  replace hs := p7.st hs
  refine q_val rfl rfl ?_
  refine g_neq rfl (((p7.ne rfl).trans (p6.ne rfl)).trans s6) s8 ?_
  intro a8 p8
  have s9 : a8.eval (.tmp 9) = .bool false := (p8.at hs (by decide)).trans (congrArg (fun b => Value.bool (!b)) (decide_eq_true rfl))
  replace hs := p8.st hs
  refine wpList_nil ?_
  replace s2 : a8.eval (.tmp 2) = .pointer (some ⟨q2, 0, none⟩) := ((p8.ne rfl).trans ((p7.ne rfl).trans ((p6.ne rfl).trans ((p5.ne rfl).trans (p4.ne rfl))))).trans s2
  replace s3 : a8.eval (.tmp 3) = .pointer (some ⟨q4, 0, none⟩) := ((p8.ne rfl).trans ((p7.ne rfl).trans ((p6.ne rfl).trans ((p5.ne rfl).trans (p4.ne rfl))))).trans s3
  replace s4 : a8.eval (.tmp 4) = .bool false := ((p8.ne rfl).trans ((p7.ne rfl).trans ((p6.ne rfl).trans ((p5.ne rfl).trans (p4.ne rfl))))).trans s4
  refine hK7 _ _ ?_
  clear hK7
  refine c_false s9 ?_
  refine wp_skip ?_
  refine hK6 _ _ ?_
  clear hK6
  refine wp_seq_k fun K8 hK8 => ?_
  refine wp_seq_k fun K9 hK9 => ?_
  refine wp_region_lit ?_
  refine q_val rfl rfl ?_
  refine g_field (r := 1) rfl s2 Try.underlying28 rfl (fun w => Try.sizeOf3 w) rfl rfl ?_
  intro a9 p9
  have s10 : a9.eval (.tmp 10) = .pointer (some ⟨q2, 1, none⟩) := p9.at hs (by decide)
  replace hs := p9.st hs
  refine q_val rfl rfl ?_
  refine g_load rfl s10 Try.isAgg3 (box_cell h_q2 rfl) ?_
  intro a10 p10
  have s11 : a10.eval (.tmp 11) = .int .i64 ct := p10.at hs (by decide)
  replace hs := p10.st hs
  refine q_val rfl rfl ?_
  refine g_field (r := 1) rfl (((p10.ne rfl).trans (p9.ne rfl)).trans s3) Try.underlying28 rfl (fun w => Try.sizeOf3 w) rfl rfl ?_
  intro a11 p11
  have s12 : a11.eval (.tmp 12) = .pointer (some ⟨q4, 1, none⟩) := p11.at hs (by decide)
  replace hs := p11.st hs
  refine q_val rfl rfl ?_
  refine g_load rfl s12 Try.isAgg3 (box_cell h_q4 rfl) ?_
  intro a12 p12
  have s13 : a12.eval (.tmp 13) = .int .i64 ct := p12.at hs (by decide)
  replace hs := p12.st hs
  refine q_val rfl rfl ?_
  refine g_neq rfl (((p12.ne rfl).trans (p11.ne rfl)).trans s11) s13 ?_
  intro a13 p13
  have s14 : a13.eval (.tmp 14) = .bool false := (p13.at hs (by decide)).trans (congrArg (fun b => Value.bool (!b)) (decide_eq_true rfl))
  replace hs := p13.st hs
  refine wpList_nil ?_
  replace s2 : a13.eval (.tmp 2) = .pointer (some ⟨q2, 0, none⟩) := ((p13.ne rfl).trans ((p12.ne rfl).trans ((p11.ne rfl).trans ((p10.ne rfl).trans (p9.ne rfl))))).trans s2
  replace s3 : a13.eval (.tmp 3) = .pointer (some ⟨q4, 0, none⟩) := ((p13.ne rfl).trans ((p12.ne rfl).trans ((p11.ne rfl).trans ((p10.ne rfl).trans (p9.ne rfl))))).trans s3
  replace s4 : a13.eval (.tmp 4) = .bool false := ((p13.ne rfl).trans ((p12.ne rfl).trans ((p11.ne rfl).trans ((p10.ne rfl).trans (p9.ne rfl))))).trans s4
  refine hK9 _ _ ?_
  clear hK9
  refine c_false s14 ?_
  refine wp_skip ?_
  refine hK8 _ _ ?_
  clear hK8
  refine wp_seq_k fun K10 hK10 => ?_
  refine wp_seq_k fun K11 hK11 => ?_
  refine wp_region_lit ?_
  refine q_val rfl rfl ?_
  refine g_field (r := 2) rfl s2 Try.underlying28 rfl (fun w => Try.sizeOf9 w) rfl rfl ?_
  intro a14 p14
  have s15 : a14.eval (.tmp 15) = .pointer (some ⟨q2, 2, none⟩) := p14.at hs (by decide)
  replace hs := p14.st hs
  refine q_val rfl rfl ?_
  refine g_load rfl s15 Try.isAgg9 (box_cell h_q2 rfl) ?_
  intro a15 p15
  have s16 : a15.eval (.tmp 16) = .string ⟨(rest).toArray⟩ := p15.at hs (by decide)
  replace hs := p15.st hs
  refine q_val rfl rfl ?_
  refine g_field (r := 2) rfl (((p15.ne rfl).trans (p14.ne rfl)).trans s3) Try.underlying28 rfl (fun w => Try.sizeOf9 w) rfl rfl ?_
  intro a16 p16
  have s17 : a16.eval (.tmp 17) = .pointer (some ⟨q4, 2, none⟩) := p16.at hs (by decide)
  replace hs := p16.st hs
  refine q_val rfl rfl ?_
  refine g_load rfl s17 Try.isAgg9 (box_cell h_q4 rfl) ?_
  intro a17 p17
  have s18 : a17.eval (.tmp 18) = .string ⟨(rest).toArray⟩ := p17.at hs (by decide)
  replace hs := p17.st hs
  refine q_val rfl rfl ?_
  refine g_neqS rfl (((p17.ne rfl).trans (p16.ne rfl)).trans s16) s18 ?_
  intro a18 p18
  have s19 : a18.eval (.tmp 19) = .bool false := p18.at hs (by decide)
  replace hs := p18.st hs
  refine wpList_nil ?_
  replace s2 : a18.eval (.tmp 2) = .pointer (some ⟨q2, 0, none⟩) := ((p18.ne rfl).trans ((p17.ne rfl).trans ((p16.ne rfl).trans ((p15.ne rfl).trans (p14.ne rfl))))).trans s2
  replace s3 : a18.eval (.tmp 3) = .pointer (some ⟨q4, 0, none⟩) := ((p18.ne rfl).trans ((p17.ne rfl).trans ((p16.ne rfl).trans ((p15.ne rfl).trans (p14.ne rfl))))).trans s3
  replace s4 : a18.eval (.tmp 4) = .bool false := ((p18.ne rfl).trans ((p17.ne rfl).trans ((p16.ne rfl).trans ((p15.ne rfl).trans (p14.ne rfl))))).trans s4
  refine hK11 _ _ ?_
  clear hK11
  refine c_false s19 ?_
  refine wp_skip ?_
  refine hK10 _ _ ?_
  clear hK10
  refine wp_seq_k fun K12 hK12 => ?_
  refine wp_seq_k fun K13 hK13 => ?_
  refine wp_region_lit ?_
  refine q_val rfl rfl ?_
  refine g_field (r := 3) rfl s2 Try.underlying28 rfl (fun w => Try.sizeOf26 w) rfl rfl ?_
  intro a19 p19
  have s20 : a19.eval (.tmp 20) = .pointer (some ⟨q2, 3, none⟩) := p19.at hs (by decide)
  replace hs := p19.st hs
  refine q_val rfl rfl ?_
  refine g_load rfl s20 Try.isAgg26 (box_cell h_q2 rfl) ?_
  intro a20 p20
  have s21 : a20.eval (.tmp 21) = .slice B m dp := p20.at hs (by decide)
  replace hs := p20.st hs
  refine q_val rfl rfl ?_
  refine g_field (r := 3) rfl (((p20.ne rfl).trans (p19.ne rfl)).trans s3) Try.underlying28 rfl (fun w => Try.sizeOf26 w) rfl rfl ?_
  intro a21 p21
  have s22 : a21.eval (.tmp 22) = .pointer (some ⟨q4, 3, none⟩) := p21.at hs (by decide)
  replace hs := p21.st hs
  refine q_val rfl rfl ?_
  refine g_load rfl s22 Try.isAgg26 (box_cell h_q4 rfl) ?_
  intro a22 p22
  have s23 : a22.eval (.tmp 23) = .slice B2 m2 dp2 := p22.at hs (by decide)
  replace hs := p22.st hs
  refine q_val rfl rfl ?_
  refine g_call rfl rfl Try.call44 (arr2 (((p22.ne rfl).trans (p21.ne rfl)).trans s21) s23) ?_
  refine (eqIntS_same _ _ _ _ _ _ ds _ hm hm2 (by omega) (hr_d.below hB) (hr_f.below hB)).mono ?_
  rintro e w15 ⟨rfl, hb14⟩
  refine ⟨_, rfl, ?_⟩
  replace h_q2 := keep_below h_q2 hb14
  replace h_q4 := keep_below h_q4 hb14
  replace hB := hB.trans (hb14.mono hB.size)
  clear hb14
  intro a23 p23
  have s24 : a23.eval (.tmp 24) = .bool true := p23.at hs (by decide)
  replace hs := p23.st hs
  refine q_val rfl rfl ?_
  refine g_not rfl s24 ?_
  intro a24 p24
  have s25 : a24.eval (.tmp 25) = .bool false := p24.at hs (by decide)
  replace hs := p24.st hs
  refine wpList_nil ?_
  replace s4 : a24.eval (.tmp 4) = .bool false := ((p24.ne rfl).trans ((p23.ne rfl).trans ((p22.ne rfl).trans ((p21.ne rfl).trans ((p20.ne rfl).trans (p19.ne rfl)))))).trans s4
  refine hK13 _ _ ?_
  clear hK13
  refine c_false s25 ?_
  refine wp_skip ?_
  refine hK12 _ _ ?_
  clear hK12
  refine wp_seq_k fun K16 hK16 => ?_
  refine wp_region_lit ?_
  refine q_val rfl rfl ?_
  refine g_assign rfl rfl ?_
  intro a25 p25
  have s4 : a25.eval (.tmp 4) = .bool true := p25.at hs (by decide)
  replace hs := p25.st hs
  refine wpList_nil ?_
  refine hK16 _ _ ?_
  clear hK16
  refine wp_ret ?_
  try dsimp only [Exit.then, Exit.inBlock]
  refine ret1 hs Try.results20 (res_tmp s4) ?_
  exact ⟨rfl, hB⟩
end Go.Proofs.Ytmcgmiapbdoocaa
