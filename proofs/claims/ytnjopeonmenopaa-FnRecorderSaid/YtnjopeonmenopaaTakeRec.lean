/- Contracts: a recorder gives up its first records, in the program and in the reference. No condition. -/
import Derived.Test.YtnjopeonmenopaaRcCopy
import Derived.Test.YtnjopeonmenopaaRcOk
import Derived.Test.YtnjopeonmenopaaFlowMem
namespace Go.Proofs.Ytnjopeonmenopaa
open Go.RowKit

def trOk (room k : Int) (zs : List ERecord) (ds : List Int) : Bool := rcOk room zs ds && decide (0 ≤ k)
def trN (k : Int) (zs : List ERecord) : Nat := min k.toNat zs.length
/-- What is left, and what is given. -/
def trL (room k : Int) (zs : List ERecord) (ds : List Int) : List ERecord := if trOk room k zs ds then zs.drop (trN k zs) else zs
def trG (room k : Int) (zs : List ERecord) (ds : List Int) : List ERecord := if trOk room k zs ds then zs.take (trN k zs) else []
def TRes (base : Nat) (w : World) (room : Int) (n m g : Nat) (ls gs : List ERecord) (ds : List Int) (v : Value) : Prop :=
  ∃ (A : Option Addr) (c : Nat) (B : Option Addr) (d : Nat) (G : Option Addr) (e : Nat), v = .tuple #[.agg #[.int .i64 room, .slice A n c, .slice B m d], .slice G g e] ∧ w.ownsRow base 26 4 (.slice A n c) n (ls.flatMap cRecord) ∧ w.ownsRow base 3 1 (.slice B m d) m (ds.flatMap cI) ∧ w.ownsRow base 26 4 (.slice G g e) g (gs.flatMap cRecord) ∧ (∀ b, A.map (·.block) = some b → G.map (·.block) ≠ some b)

set_option maxRecDepth 100000 in
set_option maxHeartbeats 4000000 in
theorem takeRecords_any (room k : Int) (A B : Option Addr) (n cp m dp : Nat) (zs : List ERecord) (ds : List Int) (w : World) (hn : zs.length = n) (hb : n ≤ 1048576) (hnc_z : n ≤ cp) (_hcm : cp ≤ 9223372036854775807) (hT : ∀ z ∈ zs, Txt z.f3) (hr_z : Rd w 4 A n (zs.flatMap cRecord)) (hnn_z : A = none → n = 0 ∧ cp = 0) (hm : ds.length = m) (hbm : m ≤ 1048576) (hnn_d : B = none → m = 0 ∧ dp = 0) (hr_d : Rd w 1 B m (ds.flatMap cI)) :
    Calls Try.prog 37 #[.agg #[.int .i64 room, .slice A n cp, .slice B m dp], .int .i64 k] w fun e w' => ∃ v, e = .returned v ∧ TRes w.heap.size w' room (trL room k zs ds).length ds.length (trG room k zs ds).length (trL room k zs ds) (trG room k zs ds) ds v ∧ Below w.heap.size w w' := by
  subst hn
  subst hm
  cases hok : rcOk room zs ds
  · have hc := Lib.hid (show trL room k zs ds = zs ∧ trG room k zs ds = [] by unfold trL trG trOk; rw [hok]; exact ⟨rfl, rfl⟩)
    refine enter 34 Try.func37 rfl rfl (Nat.le_of_ble_eq_true rfl) ?_
    intro a0 hs hargs
    have s0 : a0.eval (.tmp 0) = .agg #[.int .i64 room, .slice A zs.length cp, .slice B ds.length dp] := hargs 0 _ rfl
    have s1 : a0.eval (.tmp 1) = .int .i64 k := hargs 1 _ rfl
    clear hargs
    have hB : Below w.heap.size w w := Below.refl _ _
    refine wp_seq_k fun K1 hK1 => ?_
    refine wp_region_lit ?_
    refine q_val rfl rfl ?_
    refine g_box rfl s0 rfl ?_
    intro q2 w3 N_q2
    have g_q2 : GeB w.heap.size q2 := ⟨Nat.le_trans hB.size N_q2.lo⟩
    replace hB := below_new hB hB.size N_q2
    have h_q2 := N_q2.here
    clear N_q2
    intro a1 p1
    have s2 : a1.eval (.tmp 2) = .pointer (some ⟨q2, 0, none⟩) := p1.at hs (by decide)
    replace hs := p1.st hs
    refine q_val rfl rfl ?_
    refine g_alloc rfl Try.zeroValue50 rfl ?_
    intro q4 w5 N_q4
    have n_q2_q4 := N_q4.ne ⟨lt_of_block h_q2⟩
    have n_q4_q2 := n_q2_q4.symm
    have g_q4 : GeB w.heap.size q4 := ⟨Nat.le_trans hB.size N_q4.lo⟩
    replace h_q2 := keep_below h_q2 N_q4.below
    replace hB := below_new hB hB.size N_q4
    have h_q4 := N_q4.here
    clear N_q4
    intro a2 p2
    have s4 : a2.eval (.tmp 4) = .pointer (some ⟨q4, 0, none⟩) := p2.at hs (by decide)
    replace hs := p2.st hs
    refine q_val rfl rfl ?_
    refine g_assign rfl rfl ?_
    intro a3 p3
    have s5 : a3.eval (.tmp 5) = .slice none 0 0 := p3.at hs (by decide)
    replace hs := p3.st hs
    refine wpList_nil ?_
    replace s1 : a3.eval (.tmp 1) = .int .i64 k := ((p3.ne rfl).trans ((p2.ne rfl).trans (p1.ne rfl))).trans s1
    replace s2 : a3.eval (.tmp 2) = .pointer (some ⟨q2, 0, none⟩) := ((p3.ne rfl).trans (p2.ne rfl)).trans s2
    replace s4 : a3.eval (.tmp 4) = .pointer (some ⟨q4, 0, none⟩) := (p3.ne rfl).trans s4
    refine hK1 _ _ ?_
    clear hK1
    refine wp_seq_k fun K6 hK6 => ?_
    refine wp_region_lit ?_
    refine q_val rfl rfl ?_
    refine g_loadB rfl s2 Try.isAgg50 Try.sizeOf50 rfl h_q2 ?_
    intro a4 p4
    have s7 : a4.eval (.tmp 7) = .agg #[.int .i64 room, .slice A zs.length cp, .slice B ds.length dp] := p4.at hs (by decide)
    replace hs := p4.st hs
    refine q_val rfl rfl ?_
    refine g_call rfl rfl Try.call58 (arr1 s7) ?_
    refine (cloneRecorder_any _ _ _ _ _ _ _ zs ds _ rfl (by omega) (hr_z.below hB) rfl (by omega) (hr_d.below hB)).mono ?_
    rintro e w8 ⟨A7, c7, B7, d7, rfl, o_z7, o_y7, hb7⟩
    refine ⟨_, rfl, ?_⟩
    have m_z7_y7 := own_ne_type o_z7 o_y7 (by decide)
    have m_y7_z7 := ne_row_symm m_z7_y7
    have d_z7_q2 := own_ne_box o_z7 (lt_of_block h_q2)
    have d_z7_q4 := own_ne_box o_z7 (lt_of_block h_q4)
    have g_z7 : ∀ b, (A7 : Option Addr).map (·.block) = some b → w.heap.size ≤ b := fun b h => Nat.le_trans hB.size (own_row o_z7 b h).1
    replace o_z7 := own_base (base := w.heap.size) o_z7 hB.size
    have d_y7_q2 := own_ne_box o_y7 (lt_of_block h_q2)
    have d_y7_q4 := own_ne_box o_y7 (lt_of_block h_q4)
    have g_y7 : ∀ b, (B7 : Option Addr).map (·.block) = some b → w.heap.size ≤ b := fun b h => Nat.le_trans hB.size (own_row o_y7 b h).1
    replace o_y7 := own_base (base := w.heap.size) o_y7 hB.size
    replace h_q2 := keep_below h_q2 hb7
    replace h_q4 := keep_below h_q4 hb7
    replace hB := hB.trans (hb7.mono hB.size)
    clear hb7
    intro a5 p5
    have s8 : a5.eval (.tmp 8) = .agg #[.int .i64 room, .slice A7 zs.length c7, .slice B7 ds.length d7] := p5.at hs (by decide)
    replace hs := p5.st hs
    refine q_val rfl rfl ?_
    refine g_alloc rfl Try.zeroValue50 rfl ?_
    intro q9 w10 N_q9
    have n_q2_q9 := N_q9.ne ⟨lt_of_block h_q2⟩
    have n_q9_q2 := n_q2_q9.symm
    have n_q4_q9 := N_q9.ne ⟨lt_of_block h_q4⟩
    have n_q9_q4 := n_q4_q9.symm
    have d_z7_q9 := own_ne_new o_z7 N_q9
    have d_y7_q9 := own_ne_new o_y7 N_q9
    have g_q9 : GeB w.heap.size q9 := ⟨Nat.le_trans hB.size N_q9.lo⟩
    replace h_q2 := keep_below h_q2 N_q9.below
    replace h_q4 := keep_below h_q4 N_q9.below
    replace o_z7 := own_below o_z7 N_q9.below
    replace o_y7 := own_below o_y7 N_q9.below
    replace hB := below_new hB hB.size N_q9
    have h_q9 := N_q9.here
    clear N_q9
    intro a6 p6
    have s6 : a6.eval (.tmp 6) = .pointer (some ⟨q9, 0, none⟩) := p6.at hs (by decide)
    replace hs := p6.st hs
    refine q_eff rfl rfl ?_
    refine g_storeB rfl s6 ((p6.ne rfl).trans s8) Try.sizeOf50 rfl rfl h_q9 rfl ?_
    intro w11 W_w11
    replace h_q2 := keep_wrote h_q2 W_w11 n_q9_q2
    replace h_q4 := keep_wrote h_q4 W_w11 n_q9_q4
    replace h_q9 := W_w11.here
    replace o_z7 := own_wrote o_z7 W_w11 d_z7_q9
    replace o_y7 := own_wrote o_y7 W_w11 d_y7_q9
    replace hB := below_wrote hB hB.size W_w11 g_q9.le
    clear W_w11
    refine wpList_nil ?_
    replace s1 : a6.eval (.tmp 1) = .int .i64 k := ((p6.ne rfl).trans ((p5.ne rfl).trans (p4.ne rfl))).trans s1
    replace s2 : a6.eval (.tmp 2) = .pointer (some ⟨q2, 0, none⟩) := ((p6.ne rfl).trans ((p5.ne rfl).trans (p4.ne rfl))).trans s2
    replace s4 : a6.eval (.tmp 4) = .pointer (some ⟨q4, 0, none⟩) := ((p6.ne rfl).trans ((p5.ne rfl).trans (p4.ne rfl))).trans s4
    replace s5 : a6.eval (.tmp 5) = .slice none 0 0 := ((p6.ne rfl).trans ((p5.ne rfl).trans (p4.ne rfl))).trans s5
    refine hK6 _ _ ?_
    clear hK6
    refine wp_seq_k fun K12 hK12 => ?_
    refine wp_seq_k fun K13 hK13 => ?_
    refine wp_region_lit ?_
    refine q_val rfl rfl ?_
    refine g_loadB rfl s2 Try.isAgg50 Try.sizeOf50 rfl h_q2 ?_
    intro a7 p7
    have s9 : a7.eval (.tmp 9) = .agg #[.int .i64 room, .slice A zs.length cp, .slice B ds.length dp] := p7.at hs (by decide)
    replace hs := p7.st hs
    refine q_val rfl rfl ?_
    refine g_call rfl rfl Try.call35 (arr1 s9) ?_
    refine (recorderOk_any _ _ _ _ _ _ _ zs ds _ rfl (by omega) hT (hr_z.below hB) rfl (by omega) (hr_d.below hB)).mono ?_
    rintro e w15 ⟨rfl, hb14⟩
    refine ⟨_, rfl, ?_⟩
    replace h_q2 := keep_below h_q2 hb14
    replace h_q4 := keep_below h_q4 hb14
    replace h_q9 := keep_below h_q9 hb14
    replace o_z7 := own_below o_z7 hb14
    replace o_y7 := own_below o_y7 hb14
    replace hB := hB.trans (hb14.mono hB.size)
    clear hb14
    intro a8 p8
    have s10 : a8.eval (.tmp 10) = .bool false := (p8.at hs (by decide)).trans (congrArg Value.bool hok)
    replace hs := p8.st hs
    refine q_val rfl rfl ?_
    refine g_not rfl s10 ?_
    intro a9 p9
    have s11 : a9.eval (.tmp 11) = .bool true := p9.at hs (by decide)
    replace hs := p9.st hs
    refine q_val rfl rfl ?_
    refine g_move rfl s11 ?_
    intro a10 p10
    have s12 : a10.eval (.tmp 12) = .bool true := p10.at hs (by decide)
    replace hs := p10.st hs
    refine q_skip rfl rfl s12 rfl ?_
    intro a11 p11
    have s13 : a11.eval (.tmp 13) = undef := p11.at hs (by decide)
    replace hs := p11.st hs
    refine q_skip rfl rfl ((p11.ne rfl).trans s12) rfl ?_
    intro a12 p12
    have s14 : a12.eval (.tmp 14) = undef := p12.at hs (by decide)
    replace hs := p12.st hs
    refine q_val rfl rfl ?_
    refine g_pick_t rfl (((p12.ne rfl).trans (p11.ne rfl)).trans s12) rfl ?_
    intro a13 p13
    have s15 : a13.eval (.tmp 15) = .bool true := p13.at hs (by decide)
    replace hs := p13.st hs
    refine wpList_nil ?_
    replace s1 : a13.eval (.tmp 1) = .int .i64 k := ((p13.ne rfl).trans ((p12.ne rfl).trans ((p11.ne rfl).trans ((p10.ne rfl).trans ((p9.ne rfl).trans ((p8.ne rfl).trans (p7.ne rfl))))))).trans s1
    replace s2 : a13.eval (.tmp 2) = .pointer (some ⟨q2, 0, none⟩) := ((p13.ne rfl).trans ((p12.ne rfl).trans ((p11.ne rfl).trans ((p10.ne rfl).trans ((p9.ne rfl).trans ((p8.ne rfl).trans (p7.ne rfl))))))).trans s2
    replace s4 : a13.eval (.tmp 4) = .pointer (some ⟨q4, 0, none⟩) := ((p13.ne rfl).trans ((p12.ne rfl).trans ((p11.ne rfl).trans ((p10.ne rfl).trans ((p9.ne rfl).trans ((p8.ne rfl).trans (p7.ne rfl))))))).trans s4
    replace s5 : a13.eval (.tmp 5) = .slice none 0 0 := ((p13.ne rfl).trans ((p12.ne rfl).trans ((p11.ne rfl).trans ((p10.ne rfl).trans ((p9.ne rfl).trans ((p8.ne rfl).trans (p7.ne rfl))))))).trans s5
    replace s6 : a13.eval (.tmp 6) = .pointer (some ⟨q9, 0, none⟩) := ((p13.ne rfl).trans ((p12.ne rfl).trans ((p11.ne rfl).trans ((p10.ne rfl).trans ((p9.ne rfl).trans ((p8.ne rfl).trans (p7.ne rfl))))))).trans s6
    refine hK13 _ _ ?_
    clear hK13
    refine c_true s15 ?_
    refine wp_seq_k fun K16 hK16 => ?_
    refine wp_region_lit ?_
    refine q_val rfl rfl ?_
    refine g_loadB rfl s6 Try.isAgg50 Try.sizeOf50 rfl h_q9 ?_
    intro a14 p14
    have s16 : a14.eval (.tmp 16) = .agg #[.int .i64 room, .slice A7 zs.length c7, .slice B7 ds.length d7] := p14.at hs (by decide)
    replace hs := p14.st hs
    refine q_eff rfl rfl ?_
    refine g_storeB rfl ((p14.ne rfl).trans s4) s16 Try.sizeOf50 rfl rfl h_q4 rfl ?_
    intro w17 W_w17
    replace h_q2 := keep_wrote h_q2 W_w17 n_q4_q2
    replace h_q4 := W_w17.here
    replace h_q9 := keep_wrote h_q9 W_w17 n_q4_q9
    replace o_z7 := own_wrote o_z7 W_w17 d_z7_q4
    replace o_y7 := own_wrote o_y7 W_w17 d_y7_q4
    replace hB := below_wrote hB hB.size W_w17 g_q4.le
    clear W_w17
    refine q_val rfl rfl ?_
    refine g_assign rfl rfl ?_
    intro a15 p15
    have s5 : a15.eval (.tmp 5) = .slice none 0 0 := p15.at hs (by decide)
    replace hs := p15.st hs
    refine wpList_nil ?_
    replace s1 : a15.eval (.tmp 1) = .int .i64 k := ((p15.ne rfl).trans (p14.ne rfl)).trans s1
    replace s2 : a15.eval (.tmp 2) = .pointer (some ⟨q2, 0, none⟩) := ((p15.ne rfl).trans (p14.ne rfl)).trans s2
    replace s4 : a15.eval (.tmp 4) = .pointer (some ⟨q4, 0, none⟩) := ((p15.ne rfl).trans (p14.ne rfl)).trans s4
    replace s6 : a15.eval (.tmp 6) = .pointer (some ⟨q9, 0, none⟩) := ((p15.ne rfl).trans (p14.ne rfl)).trans s6
    refine hK16 _ _ ?_
    clear hK16
    refine wp_ret ?_
    try dsimp only [Exit.then, Exit.inBlock]
    refine ret2 hs Try.results37 (res_cell s4 h_q4 Try.isAgg50 Try.sizeOf50 rfl) (res_tmp s5) ?_
    refine ⟨_, rfl, ?_, hB⟩
    rw [hc.out.1, hc.out.2]
    exact ⟨_, _, _, _, none, 0, rfl, o_z7, o_y7, World.ownsRow_nil _ _ _ _, fun b _ h => by cases h⟩
  by_cases hk : k < 0
  · have hc := Lib.hid (show trL room k zs ds = zs ∧ trG room k zs ds = [] by unfold trL trG trOk; rw [hok, decide_eq_false (by omega : ¬ 0 ≤ k)]; exact ⟨rfl, rfl⟩)
    refine enter 34 Try.func37 rfl rfl (Nat.le_of_ble_eq_true rfl) ?_
    intro a0 hs hargs
    have s0 : a0.eval (.tmp 0) = .agg #[.int .i64 room, .slice A zs.length cp, .slice B ds.length dp] := hargs 0 _ rfl
    have s1 : a0.eval (.tmp 1) = .int .i64 k := hargs 1 _ rfl
    clear hargs
    have hB : Below w.heap.size w w := Below.refl _ _
    refine wp_seq_k fun K1 hK1 => ?_
    refine wp_region_lit ?_
    refine q_val rfl rfl ?_
    refine g_box rfl s0 rfl ?_
    intro q2 w3 N_q2
    have g_q2 : GeB w.heap.size q2 := ⟨Nat.le_trans hB.size N_q2.lo⟩
    replace hB := below_new hB hB.size N_q2
    have h_q2 := N_q2.here
    clear N_q2
    intro a1 p1
    have s2 : a1.eval (.tmp 2) = .pointer (some ⟨q2, 0, none⟩) := p1.at hs (by decide)
    replace hs := p1.st hs
    refine q_val rfl rfl ?_
    refine g_alloc rfl Try.zeroValue50 rfl ?_
    intro q4 w5 N_q4
    have n_q2_q4 := N_q4.ne ⟨lt_of_block h_q2⟩
    have n_q4_q2 := n_q2_q4.symm
    have g_q4 : GeB w.heap.size q4 := ⟨Nat.le_trans hB.size N_q4.lo⟩
    replace h_q2 := keep_below h_q2 N_q4.below
    replace hB := below_new hB hB.size N_q4
    have h_q4 := N_q4.here
    clear N_q4
    intro a2 p2
    have s4 : a2.eval (.tmp 4) = .pointer (some ⟨q4, 0, none⟩) := p2.at hs (by decide)
    replace hs := p2.st hs
    refine q_val rfl rfl ?_
    refine g_assign rfl rfl ?_
    intro a3 p3
    have s5 : a3.eval (.tmp 5) = .slice none 0 0 := p3.at hs (by decide)
    replace hs := p3.st hs
    refine wpList_nil ?_
    replace s1 : a3.eval (.tmp 1) = .int .i64 k := ((p3.ne rfl).trans ((p2.ne rfl).trans (p1.ne rfl))).trans s1
    replace s2 : a3.eval (.tmp 2) = .pointer (some ⟨q2, 0, none⟩) := ((p3.ne rfl).trans (p2.ne rfl)).trans s2
    replace s4 : a3.eval (.tmp 4) = .pointer (some ⟨q4, 0, none⟩) := (p3.ne rfl).trans s4
    refine hK1 _ _ ?_
    clear hK1
    refine wp_seq_k fun K6 hK6 => ?_
    refine wp_region_lit ?_
    refine q_val rfl rfl ?_
    refine g_loadB rfl s2 Try.isAgg50 Try.sizeOf50 rfl h_q2 ?_
    intro a4 p4
    have s7 : a4.eval (.tmp 7) = .agg #[.int .i64 room, .slice A zs.length cp, .slice B ds.length dp] := p4.at hs (by decide)
    replace hs := p4.st hs
    refine q_val rfl rfl ?_
    refine g_call rfl rfl Try.call58 (arr1 s7) ?_
    refine (cloneRecorder_any _ _ _ _ _ _ _ zs ds _ rfl (by omega) (hr_z.below hB) rfl (by omega) (hr_d.below hB)).mono ?_
    rintro e w8 ⟨A7, c7, B7, d7, rfl, o_z7, o_y7, hb7⟩
    refine ⟨_, rfl, ?_⟩
    have m_z7_y7 := own_ne_type o_z7 o_y7 (by decide)
    have m_y7_z7 := ne_row_symm m_z7_y7
    have d_z7_q2 := own_ne_box o_z7 (lt_of_block h_q2)
    have d_z7_q4 := own_ne_box o_z7 (lt_of_block h_q4)
    have g_z7 : ∀ b, (A7 : Option Addr).map (·.block) = some b → w.heap.size ≤ b := fun b h => Nat.le_trans hB.size (own_row o_z7 b h).1
    replace o_z7 := own_base (base := w.heap.size) o_z7 hB.size
    have d_y7_q2 := own_ne_box o_y7 (lt_of_block h_q2)
    have d_y7_q4 := own_ne_box o_y7 (lt_of_block h_q4)
    have g_y7 : ∀ b, (B7 : Option Addr).map (·.block) = some b → w.heap.size ≤ b := fun b h => Nat.le_trans hB.size (own_row o_y7 b h).1
    replace o_y7 := own_base (base := w.heap.size) o_y7 hB.size
    replace h_q2 := keep_below h_q2 hb7
    replace h_q4 := keep_below h_q4 hb7
    replace hB := hB.trans (hb7.mono hB.size)
    clear hb7
    intro a5 p5
    have s8 : a5.eval (.tmp 8) = .agg #[.int .i64 room, .slice A7 zs.length c7, .slice B7 ds.length d7] := p5.at hs (by decide)
    replace hs := p5.st hs
    refine q_val rfl rfl ?_
    refine g_alloc rfl Try.zeroValue50 rfl ?_
    intro q9 w10 N_q9
    have n_q2_q9 := N_q9.ne ⟨lt_of_block h_q2⟩
    have n_q9_q2 := n_q2_q9.symm
    have n_q4_q9 := N_q9.ne ⟨lt_of_block h_q4⟩
    have n_q9_q4 := n_q4_q9.symm
    have d_z7_q9 := own_ne_new o_z7 N_q9
    have d_y7_q9 := own_ne_new o_y7 N_q9
    have g_q9 : GeB w.heap.size q9 := ⟨Nat.le_trans hB.size N_q9.lo⟩
    replace h_q2 := keep_below h_q2 N_q9.below
    replace h_q4 := keep_below h_q4 N_q9.below
    replace o_z7 := own_below o_z7 N_q9.below
    replace o_y7 := own_below o_y7 N_q9.below
    replace hB := below_new hB hB.size N_q9
    have h_q9 := N_q9.here
    clear N_q9
    intro a6 p6
    have s6 : a6.eval (.tmp 6) = .pointer (some ⟨q9, 0, none⟩) := p6.at hs (by decide)
    replace hs := p6.st hs
    refine q_eff rfl rfl ?_
    refine g_storeB rfl s6 ((p6.ne rfl).trans s8) Try.sizeOf50 rfl rfl h_q9 rfl ?_
    intro w11 W_w11
    replace h_q2 := keep_wrote h_q2 W_w11 n_q9_q2
    replace h_q4 := keep_wrote h_q4 W_w11 n_q9_q4
    replace h_q9 := W_w11.here
    replace o_z7 := own_wrote o_z7 W_w11 d_z7_q9
    replace o_y7 := own_wrote o_y7 W_w11 d_y7_q9
    replace hB := below_wrote hB hB.size W_w11 g_q9.le
    clear W_w11
    refine wpList_nil ?_
    replace s1 : a6.eval (.tmp 1) = .int .i64 k := ((p6.ne rfl).trans ((p5.ne rfl).trans (p4.ne rfl))).trans s1
    replace s2 : a6.eval (.tmp 2) = .pointer (some ⟨q2, 0, none⟩) := ((p6.ne rfl).trans ((p5.ne rfl).trans (p4.ne rfl))).trans s2
    replace s4 : a6.eval (.tmp 4) = .pointer (some ⟨q4, 0, none⟩) := ((p6.ne rfl).trans ((p5.ne rfl).trans (p4.ne rfl))).trans s4
    replace s5 : a6.eval (.tmp 5) = .slice none 0 0 := ((p6.ne rfl).trans ((p5.ne rfl).trans (p4.ne rfl))).trans s5
    refine hK6 _ _ ?_
    clear hK6
    refine wp_seq_k fun K12 hK12 => ?_
    refine wp_seq_k fun K13 hK13 => ?_
    refine wp_region_lit ?_
    refine q_val rfl rfl ?_
    refine g_loadB rfl s2 Try.isAgg50 Try.sizeOf50 rfl h_q2 ?_
    intro a7 p7
    have s9 : a7.eval (.tmp 9) = .agg #[.int .i64 room, .slice A zs.length cp, .slice B ds.length dp] := p7.at hs (by decide)
    replace hs := p7.st hs
    refine q_val rfl rfl ?_
    refine g_call rfl rfl Try.call35 (arr1 s9) ?_
    refine (recorderOk_any _ _ _ _ _ _ _ zs ds _ rfl (by omega) hT (hr_z.below hB) rfl (by omega) (hr_d.below hB)).mono ?_
    rintro e w15 ⟨rfl, hb14⟩
    refine ⟨_, rfl, ?_⟩
    replace h_q2 := keep_below h_q2 hb14
    replace h_q4 := keep_below h_q4 hb14
    replace h_q9 := keep_below h_q9 hb14
    replace o_z7 := own_below o_z7 hb14
    replace o_y7 := own_below o_y7 hb14
    replace hB := hB.trans (hb14.mono hB.size)
    clear hb14
    intro a8 p8
    have s10 : a8.eval (.tmp 10) = .bool true := (p8.at hs (by decide)).trans (congrArg Value.bool hok)
    replace hs := p8.st hs
    refine q_val rfl rfl ?_
    refine g_not rfl s10 ?_
    intro a9 p9
    have s11 : a9.eval (.tmp 11) = .bool false := p9.at hs (by decide)
    replace hs := p9.st hs
    refine q_val rfl rfl ?_
    refine g_move rfl s11 ?_
    intro a10 p10
    have s12 : a10.eval (.tmp 12) = .bool false := p10.at hs (by decide)
    replace hs := p10.st hs
    refine q_take rfl rfl s12 rfl ?_
    refine g_move rfl (((p10.ne rfl).trans ((p9.ne rfl).trans ((p8.ne rfl).trans (p7.ne rfl)))).trans s1) ?_
    intro a11 p11
    have s13 : a11.eval (.tmp 13) = .int .i64 k := p11.at hs (by decide)
    replace hs := p11.st hs
    refine q_take rfl rfl ((p11.ne rfl).trans s12) rfl ?_
    refine g_lss rfl s13 rfl ?_
    intro a12 p12
    have s14 : a12.eval (.tmp 14) = .bool true := (p12.at hs (by decide)).trans (congrArg Value.bool (decide_eq_true hk))
    replace hs := p12.st hs
    refine q_val rfl rfl ?_
    refine g_pick_f rfl (((p12.ne rfl).trans (p11.ne rfl)).trans s12) s14 ?_
    intro a13 p13
    have s15 : a13.eval (.tmp 15) = .bool true := p13.at hs (by decide)
    replace hs := p13.st hs
    refine wpList_nil ?_
    replace s1 : a13.eval (.tmp 1) = .int .i64 k := ((p13.ne rfl).trans ((p12.ne rfl).trans ((p11.ne rfl).trans ((p10.ne rfl).trans ((p9.ne rfl).trans ((p8.ne rfl).trans (p7.ne rfl))))))).trans s1
    replace s2 : a13.eval (.tmp 2) = .pointer (some ⟨q2, 0, none⟩) := ((p13.ne rfl).trans ((p12.ne rfl).trans ((p11.ne rfl).trans ((p10.ne rfl).trans ((p9.ne rfl).trans ((p8.ne rfl).trans (p7.ne rfl))))))).trans s2
    replace s4 : a13.eval (.tmp 4) = .pointer (some ⟨q4, 0, none⟩) := ((p13.ne rfl).trans ((p12.ne rfl).trans ((p11.ne rfl).trans ((p10.ne rfl).trans ((p9.ne rfl).trans ((p8.ne rfl).trans (p7.ne rfl))))))).trans s4
    replace s5 : a13.eval (.tmp 5) = .slice none 0 0 := ((p13.ne rfl).trans ((p12.ne rfl).trans ((p11.ne rfl).trans ((p10.ne rfl).trans ((p9.ne rfl).trans ((p8.ne rfl).trans (p7.ne rfl))))))).trans s5
    replace s6 : a13.eval (.tmp 6) = .pointer (some ⟨q9, 0, none⟩) := ((p13.ne rfl).trans ((p12.ne rfl).trans ((p11.ne rfl).trans ((p10.ne rfl).trans ((p9.ne rfl).trans ((p8.ne rfl).trans (p7.ne rfl))))))).trans s6
    refine hK13 _ _ ?_
    clear hK13
    refine c_true s15 ?_
    refine wp_seq_k fun K16 hK16 => ?_
    refine wp_region_lit ?_
    refine q_val rfl rfl ?_
    refine g_loadB rfl s6 Try.isAgg50 Try.sizeOf50 rfl h_q9 ?_
    intro a14 p14
    have s16 : a14.eval (.tmp 16) = .agg #[.int .i64 room, .slice A7 zs.length c7, .slice B7 ds.length d7] := p14.at hs (by decide)
    replace hs := p14.st hs
    refine q_eff rfl rfl ?_
    refine g_storeB rfl ((p14.ne rfl).trans s4) s16 Try.sizeOf50 rfl rfl h_q4 rfl ?_
    intro w17 W_w17
    replace h_q2 := keep_wrote h_q2 W_w17 n_q4_q2
    replace h_q4 := W_w17.here
    replace h_q9 := keep_wrote h_q9 W_w17 n_q4_q9
    replace o_z7 := own_wrote o_z7 W_w17 d_z7_q4
    replace o_y7 := own_wrote o_y7 W_w17 d_y7_q4
    replace hB := below_wrote hB hB.size W_w17 g_q4.le
    clear W_w17
    refine q_val rfl rfl ?_
    refine g_assign rfl rfl ?_
    intro a15 p15
    have s5 : a15.eval (.tmp 5) = .slice none 0 0 := p15.at hs (by decide)
    replace hs := p15.st hs
    refine wpList_nil ?_
    replace s1 : a15.eval (.tmp 1) = .int .i64 k := ((p15.ne rfl).trans (p14.ne rfl)).trans s1
    replace s2 : a15.eval (.tmp 2) = .pointer (some ⟨q2, 0, none⟩) := ((p15.ne rfl).trans (p14.ne rfl)).trans s2
    replace s4 : a15.eval (.tmp 4) = .pointer (some ⟨q4, 0, none⟩) := ((p15.ne rfl).trans (p14.ne rfl)).trans s4
    replace s6 : a15.eval (.tmp 6) = .pointer (some ⟨q9, 0, none⟩) := ((p15.ne rfl).trans (p14.ne rfl)).trans s6
    refine hK16 _ _ ?_
    clear hK16
    refine wp_ret ?_
    try dsimp only [Exit.then, Exit.inBlock]
    refine ret2 hs Try.results37 (res_cell s4 h_q4 Try.isAgg50 Try.sizeOf50 rfl) (res_tmp s5) ?_
    refine ⟨_, rfl, ?_, hB⟩
    rw [hc.out.1, hc.out.2]
    exact ⟨_, _, _, _, none, 0, rfl, o_z7, o_y7, World.ownsRow_nil _ _ _ _, fun b _ h => by cases h⟩
  by_cases hkl : k ≤ (zs.length : Int)
  · obtain ⟨kk, rfl⟩ := Int.eq_ofNat_of_zero_le (show 0 ≤ k by omega)
    have hkn : kk ≤ zs.length := by omega
    have hc := Lib.hid (show trL room kk zs ds = zs.drop kk ∧ trG room kk zs ds = zs.take kk by unfold trL trG trOk; rw [hok, decide_eq_true (by omega : 0 ≤ (kk : Int)), show trN kk zs = kk from by unfold trN; omega]; exact ⟨rfl, rfl⟩)
    refine enter 34 Try.func37 rfl rfl (Nat.le_of_ble_eq_true rfl) ?_
    intro a0 hs hargs
    have s0 : a0.eval (.tmp 0) = .agg #[.int .i64 room, .slice A zs.length cp, .slice B ds.length dp] := hargs 0 _ rfl
    have s1 : a0.eval (.tmp 1) = .int .i64 ((kk : Nat) : Int) := hargs 1 _ rfl
    clear hargs
    have hB : Below w.heap.size w w := Below.refl _ _
    refine wp_seq_k fun K1 hK1 => ?_
    refine wp_region_lit ?_
    refine q_val rfl rfl ?_
    refine g_box rfl s0 rfl ?_
    intro q2 w3 N_q2
    have g_q2 : GeB w.heap.size q2 := ⟨Nat.le_trans hB.size N_q2.lo⟩
    replace hB := below_new hB hB.size N_q2
    have h_q2 := N_q2.here
    clear N_q2
    intro a1 p1
    have s2 : a1.eval (.tmp 2) = .pointer (some ⟨q2, 0, none⟩) := p1.at hs (by decide)
    replace hs := p1.st hs
    refine q_val rfl rfl ?_
    refine g_alloc rfl Try.zeroValue50 rfl ?_
    intro q4 w5 N_q4
    have n_q2_q4 := N_q4.ne ⟨lt_of_block h_q2⟩
    have n_q4_q2 := n_q2_q4.symm
    have g_q4 : GeB w.heap.size q4 := ⟨Nat.le_trans hB.size N_q4.lo⟩
    replace h_q2 := keep_below h_q2 N_q4.below
    replace hB := below_new hB hB.size N_q4
    have h_q4 := N_q4.here
    clear N_q4
    intro a2 p2
    have s4 : a2.eval (.tmp 4) = .pointer (some ⟨q4, 0, none⟩) := p2.at hs (by decide)
    replace hs := p2.st hs
    refine q_val rfl rfl ?_
    refine g_assign rfl rfl ?_
    intro a3 p3
    have s5 : a3.eval (.tmp 5) = .slice none 0 0 := p3.at hs (by decide)
    replace hs := p3.st hs
    refine wpList_nil ?_
    replace s1 : a3.eval (.tmp 1) = .int .i64 ((kk : Nat) : Int) := ((p3.ne rfl).trans ((p2.ne rfl).trans (p1.ne rfl))).trans s1
    replace s2 : a3.eval (.tmp 2) = .pointer (some ⟨q2, 0, none⟩) := ((p3.ne rfl).trans (p2.ne rfl)).trans s2
    replace s4 : a3.eval (.tmp 4) = .pointer (some ⟨q4, 0, none⟩) := (p3.ne rfl).trans s4
    refine hK1 _ _ ?_
    clear hK1
    refine wp_seq_k fun K6 hK6 => ?_
    refine wp_region_lit ?_
    refine q_val rfl rfl ?_
    refine g_loadB rfl s2 Try.isAgg50 Try.sizeOf50 rfl h_q2 ?_
    intro a4 p4
    have s7 : a4.eval (.tmp 7) = .agg #[.int .i64 room, .slice A zs.length cp, .slice B ds.length dp] := p4.at hs (by decide)
    replace hs := p4.st hs
    refine q_val rfl rfl ?_
    refine g_call rfl rfl Try.call58 (arr1 s7) ?_
    refine (cloneRecorder_any _ _ _ _ _ _ _ zs ds _ rfl (by omega) (hr_z.below hB) rfl (by omega) (hr_d.below hB)).mono ?_
    rintro e w8 ⟨A7, c7, B7, d7, rfl, o_z7, o_y7, hb7⟩
    refine ⟨_, rfl, ?_⟩
    have m_z7_y7 := own_ne_type o_z7 o_y7 (by decide)
    have m_y7_z7 := ne_row_symm m_z7_y7
    have d_z7_q2 := own_ne_box o_z7 (lt_of_block h_q2)
    have d_z7_q4 := own_ne_box o_z7 (lt_of_block h_q4)
    have g_z7 : ∀ b, (A7 : Option Addr).map (·.block) = some b → w.heap.size ≤ b := fun b h => Nat.le_trans hB.size (own_row o_z7 b h).1
    replace o_z7 := own_base (base := w.heap.size) o_z7 hB.size
    have d_y7_q2 := own_ne_box o_y7 (lt_of_block h_q2)
    have d_y7_q4 := own_ne_box o_y7 (lt_of_block h_q4)
    have g_y7 : ∀ b, (B7 : Option Addr).map (·.block) = some b → w.heap.size ≤ b := fun b h => Nat.le_trans hB.size (own_row o_y7 b h).1
    replace o_y7 := own_base (base := w.heap.size) o_y7 hB.size
    replace h_q2 := keep_below h_q2 hb7
    replace h_q4 := keep_below h_q4 hb7
    replace hB := hB.trans (hb7.mono hB.size)
    clear hb7
    intro a5 p5
    have s8 : a5.eval (.tmp 8) = .agg #[.int .i64 room, .slice A7 zs.length c7, .slice B7 ds.length d7] := p5.at hs (by decide)
    replace hs := p5.st hs
    refine q_val rfl rfl ?_
    refine g_alloc rfl Try.zeroValue50 rfl ?_
    intro q9 w10 N_q9
    have n_q2_q9 := N_q9.ne ⟨lt_of_block h_q2⟩
    have n_q9_q2 := n_q2_q9.symm
    have n_q4_q9 := N_q9.ne ⟨lt_of_block h_q4⟩
    have n_q9_q4 := n_q4_q9.symm
    have d_z7_q9 := own_ne_new o_z7 N_q9
    have d_y7_q9 := own_ne_new o_y7 N_q9
    have g_q9 : GeB w.heap.size q9 := ⟨Nat.le_trans hB.size N_q9.lo⟩
    replace h_q2 := keep_below h_q2 N_q9.below
    replace h_q4 := keep_below h_q4 N_q9.below
    replace o_z7 := own_below o_z7 N_q9.below
    replace o_y7 := own_below o_y7 N_q9.below
    replace hB := below_new hB hB.size N_q9
    have h_q9 := N_q9.here
    clear N_q9
    intro a6 p6
    have s6 : a6.eval (.tmp 6) = .pointer (some ⟨q9, 0, none⟩) := p6.at hs (by decide)
    replace hs := p6.st hs
    refine q_eff rfl rfl ?_
    refine g_storeB rfl s6 ((p6.ne rfl).trans s8) Try.sizeOf50 rfl rfl h_q9 rfl ?_
    intro w11 W_w11
    replace h_q2 := keep_wrote h_q2 W_w11 n_q9_q2
    replace h_q4 := keep_wrote h_q4 W_w11 n_q9_q4
    replace h_q9 := W_w11.here
    replace o_z7 := own_wrote o_z7 W_w11 d_z7_q9
    replace o_y7 := own_wrote o_y7 W_w11 d_y7_q9
    replace hB := below_wrote hB hB.size W_w11 g_q9.le
    clear W_w11
    refine wpList_nil ?_
    replace s1 : a6.eval (.tmp 1) = .int .i64 ((kk : Nat) : Int) := ((p6.ne rfl).trans ((p5.ne rfl).trans (p4.ne rfl))).trans s1
    replace s2 : a6.eval (.tmp 2) = .pointer (some ⟨q2, 0, none⟩) := ((p6.ne rfl).trans ((p5.ne rfl).trans (p4.ne rfl))).trans s2
    replace s4 : a6.eval (.tmp 4) = .pointer (some ⟨q4, 0, none⟩) := ((p6.ne rfl).trans ((p5.ne rfl).trans (p4.ne rfl))).trans s4
    replace s5 : a6.eval (.tmp 5) = .slice none 0 0 := ((p6.ne rfl).trans ((p5.ne rfl).trans (p4.ne rfl))).trans s5
    refine hK6 _ _ ?_
    clear hK6
    refine wp_seq_k fun K12 hK12 => ?_
    refine wp_seq_k fun K13 hK13 => ?_
    refine wp_region_lit ?_
    refine q_val rfl rfl ?_
    refine g_loadB rfl s2 Try.isAgg50 Try.sizeOf50 rfl h_q2 ?_
    intro a7 p7
    have s9 : a7.eval (.tmp 9) = .agg #[.int .i64 room, .slice A zs.length cp, .slice B ds.length dp] := p7.at hs (by decide)
    replace hs := p7.st hs
    refine q_val rfl rfl ?_
    refine g_call rfl rfl Try.call35 (arr1 s9) ?_
    refine (recorderOk_any _ _ _ _ _ _ _ zs ds _ rfl (by omega) hT (hr_z.below hB) rfl (by omega) (hr_d.below hB)).mono ?_
    rintro e w15 ⟨rfl, hb14⟩
    refine ⟨_, rfl, ?_⟩
    replace h_q2 := keep_below h_q2 hb14
    replace h_q4 := keep_below h_q4 hb14
    replace h_q9 := keep_below h_q9 hb14
    replace o_z7 := own_below o_z7 hb14
    replace o_y7 := own_below o_y7 hb14
    replace hB := hB.trans (hb14.mono hB.size)
    clear hb14
    intro a8 p8
    have s10 : a8.eval (.tmp 10) = .bool true := (p8.at hs (by decide)).trans (congrArg Value.bool hok)
    replace hs := p8.st hs
    refine q_val rfl rfl ?_
    refine g_not rfl s10 ?_
    intro a9 p9
    have s11 : a9.eval (.tmp 11) = .bool false := p9.at hs (by decide)
    replace hs := p9.st hs
    refine q_val rfl rfl ?_
    refine g_move rfl s11 ?_
    intro a10 p10
    have s12 : a10.eval (.tmp 12) = .bool false := p10.at hs (by decide)
    replace hs := p10.st hs
    refine q_take rfl rfl s12 rfl ?_
    refine g_move rfl (((p10.ne rfl).trans ((p9.ne rfl).trans ((p8.ne rfl).trans (p7.ne rfl)))).trans s1) ?_
    intro a11 p11
    have s13 : a11.eval (.tmp 13) = .int .i64 ((kk : Nat) : Int) := p11.at hs (by decide)
    replace hs := p11.st hs
    refine q_take rfl rfl ((p11.ne rfl).trans s12) rfl ?_
    refine g_lss rfl s13 rfl ?_
    intro a12 p12
    have s14 : a12.eval (.tmp 14) = .bool false := (p12.at hs (by decide)).trans (congrArg Value.bool (decide_eq_false (by omega)))
    replace hs := p12.st hs
    refine q_val rfl rfl ?_
    refine g_pick_f rfl (((p12.ne rfl).trans (p11.ne rfl)).trans s12) s14 ?_
    intro a13 p13
    have s15 : a13.eval (.tmp 15) = .bool false := p13.at hs (by decide)
    replace hs := p13.st hs
    refine wpList_nil ?_
    replace s1 : a13.eval (.tmp 1) = .int .i64 ((kk : Nat) : Int) := ((p13.ne rfl).trans ((p12.ne rfl).trans ((p11.ne rfl).trans ((p10.ne rfl).trans ((p9.ne rfl).trans ((p8.ne rfl).trans (p7.ne rfl))))))).trans s1
    replace s2 : a13.eval (.tmp 2) = .pointer (some ⟨q2, 0, none⟩) := ((p13.ne rfl).trans ((p12.ne rfl).trans ((p11.ne rfl).trans ((p10.ne rfl).trans ((p9.ne rfl).trans ((p8.ne rfl).trans (p7.ne rfl))))))).trans s2
    replace s4 : a13.eval (.tmp 4) = .pointer (some ⟨q4, 0, none⟩) := ((p13.ne rfl).trans ((p12.ne rfl).trans ((p11.ne rfl).trans ((p10.ne rfl).trans ((p9.ne rfl).trans ((p8.ne rfl).trans (p7.ne rfl))))))).trans s4
    replace s5 : a13.eval (.tmp 5) = .slice none 0 0 := ((p13.ne rfl).trans ((p12.ne rfl).trans ((p11.ne rfl).trans ((p10.ne rfl).trans ((p9.ne rfl).trans ((p8.ne rfl).trans (p7.ne rfl))))))).trans s5
    replace s6 : a13.eval (.tmp 6) = .pointer (some ⟨q9, 0, none⟩) := ((p13.ne rfl).trans ((p12.ne rfl).trans ((p11.ne rfl).trans ((p10.ne rfl).trans ((p9.ne rfl).trans ((p8.ne rfl).trans (p7.ne rfl))))))).trans s6
    refine hK13 _ _ ?_
    clear hK13
    refine c_false s15 ?_
    refine wp_skip ?_
    refine hK12 _ _ ?_
    clear hK12
    refine wp_seq_k fun K16 hK16 => ?_
    refine wp_region_lit ?_
    refine q_val rfl rfl ?_
    refine g_move rfl s1 ?_
    intro a14 p14
    have s17 : a14.eval (.tmp 17) = .int .i64 ((kk : Nat) : Int) := p14.at hs (by decide)
    replace hs := p14.st hs
    refine q_val rfl rfl ?_
    refine g_field (r := 1) rfl ((p14.ne rfl).trans s2) Try.underlying50 rfl (fun w => Try.sizeOf47 w) rfl rfl ?_
    intro a15 p15
    have s18 : a15.eval (.tmp 18) = .pointer (some ⟨q2, 1, none⟩) := p15.at hs (by decide)
    replace hs := p15.st hs
    refine q_val rfl rfl ?_
    refine g_load rfl s18 Try.isAgg47 (box_cell h_q2 rfl) ?_
    intro a16 p16
    have s19 : a16.eval (.tmp 19) = .slice A zs.length cp := p16.at hs (by decide)
    replace hs := p16.st hs
    refine q_val rfl rfl ?_
    refine g_len (e := _) rfl Try.underlying47 s19 ?_
    intro a17 p17
    have s20 : a17.eval (.tmp 20) = .int .i64 ((zs.length : Nat) : Int) := p17.at hs (by decide)
    replace hs := p17.st hs
    refine q_val rfl rfl ?_
    refine g_min (r := ((kk : Nat) : Int)) rfl (((p17.ne rfl).trans ((p16.ne rfl).trans (p15.ne rfl))).trans s17) s20 (by split <;> omega) ?_
    intro a18 p18
    have s21 : a18.eval (.tmp 21) = .int .i64 ((kk : Nat) : Int) := p18.at hs (by decide)
    replace hs := p18.st hs
    refine q_val rfl rfl ?_
    refine g_assign rfl s21 ?_
    intro a19 p19
    have s1 : a19.eval (.tmp 1) = .int .i64 ((kk : Nat) : Int) := p19.at hs (by decide)
    replace hs := p19.st hs
    refine wpList_nil ?_
    replace s2 : a19.eval (.tmp 2) = .pointer (some ⟨q2, 0, none⟩) := ((p19.ne rfl).trans ((p18.ne rfl).trans ((p17.ne rfl).trans ((p16.ne rfl).trans ((p15.ne rfl).trans (p14.ne rfl)))))).trans s2
    replace s4 : a19.eval (.tmp 4) = .pointer (some ⟨q4, 0, none⟩) := ((p19.ne rfl).trans ((p18.ne rfl).trans ((p17.ne rfl).trans ((p16.ne rfl).trans ((p15.ne rfl).trans (p14.ne rfl)))))).trans s4
    replace s5 : a19.eval (.tmp 5) = .slice none 0 0 := ((p19.ne rfl).trans ((p18.ne rfl).trans ((p17.ne rfl).trans ((p16.ne rfl).trans ((p15.ne rfl).trans (p14.ne rfl)))))).trans s5
    replace s6 : a19.eval (.tmp 6) = .pointer (some ⟨q9, 0, none⟩) := ((p19.ne rfl).trans ((p18.ne rfl).trans ((p17.ne rfl).trans ((p16.ne rfl).trans ((p15.ne rfl).trans (p14.ne rfl)))))).trans s6
    refine hK16 _ _ ?_
    clear hK16
    refine wp_seq_k fun K17 hK17 => ?_
    refine wp_region_lit ?_
    refine q_val rfl rfl ?_
    refine g_field (r := 1) rfl s2 Try.underlying50 rfl (fun w => Try.sizeOf47 w) rfl rfl ?_
    intro a20 p20
    have s22 : a20.eval (.tmp 22) = .pointer (some ⟨q2, 1, none⟩) := p20.at hs (by decide)
    replace hs := p20.st hs
    refine q_val rfl rfl ?_
    refine g_load rfl s22 Try.isAgg47 (box_cell h_q2 rfl) ?_
    intro a21 p21
    have s23 : a21.eval (.tmp 23) = .slice A zs.length cp := p21.at hs (by decide)
    replace hs := p21.st hs
    refine q_val rfl rfl ?_
    refine g_move rfl (((p21.ne rfl).trans (p20.ne rfl)).trans s1) ?_
    intro a22 p22
    have s24 : a22.eval (.tmp 24) = .int .i64 ((kk : Nat) : Int) := p22.at hs (by decide)
    replace hs := p22.st hs
    obtain ⟨A18, hA_v19⟩ : ∃ x_, x_ = tailA 4 A cp kk := ⟨_, rfl⟩
    have T_v19 : Tail 4 A A18 zs.length cp kk := hA_v19 ▸ tailA_of 4 A zs.length cp kk hnc_z
    refine q_val rfl rfl ?_
    refine g_tailD rfl ((p22.ne rfl).trans s23) s24 Try.underlying47 (fun w => Try.sizeOf26 w) (by omega) rfl rfl hA_v19 ?_
    intro a23 p23
    have s25 : a23.eval (.tmp 25) = .slice A18 (zs.length - kk) (cp - kk) := p23.at hs (by decide)
    replace hs := p23.st hs
    refine q_val rfl rfl ?_
    refine g_call rfl rfl Try.call63 (arr1 s25) ?_
    refine (cloneRecord_any _ _ _ (zs.drop kk) _ (by simp only [List.length_drop] <;> omega) (by omega) (T_v19.rd cRecord_len rfl (by omega) (hr_z.below hB))).mono ?_
    rintro e w21 ⟨A20, c20, rfl, o_x20, hb20⟩
    refine ⟨_, rfl, ?_⟩
    have d_x20_q2 := own_ne_box o_x20 (lt_of_block h_q2)
    have d_x20_q4 := own_ne_box o_x20 (lt_of_block h_q4)
    have d_x20_q9 := own_ne_box o_x20 (lt_of_block h_q9)
    have m_z7_x20 := own_ne_row o_z7 o_x20 (Nat.le_refl _)
    have m_x20_z7 := ne_row_symm m_z7_x20
    have m_y7_x20 := own_ne_row o_y7 o_x20 (Nat.le_refl _)
    have m_x20_y7 := ne_row_symm m_y7_x20
    have g_x20 : ∀ b, (A20 : Option Addr).map (·.block) = some b → w.heap.size ≤ b := fun b h => Nat.le_trans hB.size (own_row o_x20 b h).1
    replace o_x20 := own_base (base := w.heap.size) o_x20 hB.size
    replace h_q2 := keep_below h_q2 hb20
    replace h_q4 := keep_below h_q4 hb20
    replace h_q9 := keep_below h_q9 hb20
    replace o_z7 := own_below o_z7 hb20
    replace o_y7 := own_below o_y7 hb20
    replace hB := hB.trans (hb20.mono hB.size)
    clear hb20
    intro a24 p24
    have s26 : a24.eval (.tmp 26) = .slice A20 (zs.length - kk) c20 := p24.at hs (by decide)
    replace hs := p24.st hs
    refine q_val rfl rfl ?_
    refine g_field (r := 1) rfl (((p24.ne rfl).trans ((p23.ne rfl).trans ((p22.ne rfl).trans ((p21.ne rfl).trans (p20.ne rfl))))).trans s6) Try.underlying50 rfl (fun w => Try.sizeOf47 w) rfl rfl ?_
    intro a25 p25
    have s27 : a25.eval (.tmp 27) = .pointer (some ⟨q9, 1, none⟩) := p25.at hs (by decide)
    replace hs := p25.st hs
    refine q_eff rfl rfl ?_
    refine g_store (cs' := #[.int .i64 room, .slice A20 (zs.length - kk) c20, .slice B7 ds.length d7]) rfl s27 ((p25.ne rfl).trans s26) Try.sizeOf47 rfl h_q9 (Nat.le_of_ble_eq_true rfl) rfl ?_
    intro w22 W_w22
    replace h_q2 := keep_wrote h_q2 W_w22 n_q9_q2
    replace h_q4 := keep_wrote h_q4 W_w22 n_q9_q4
    replace h_q9 := W_w22.here
    replace o_z7 := own_wrote o_z7 W_w22 d_z7_q9
    replace o_y7 := own_wrote o_y7 W_w22 d_y7_q9
    replace o_x20 := own_wrote o_x20 W_w22 d_x20_q9
    replace hB := below_wrote hB hB.size W_w22 g_q9.le
    clear W_w22
    refine wpList_nil ?_
    replace s1 : a25.eval (.tmp 1) = .int .i64 ((kk : Nat) : Int) := ((p25.ne rfl).trans ((p24.ne rfl).trans ((p23.ne rfl).trans ((p22.ne rfl).trans ((p21.ne rfl).trans (p20.ne rfl)))))).trans s1
    replace s2 : a25.eval (.tmp 2) = .pointer (some ⟨q2, 0, none⟩) := ((p25.ne rfl).trans ((p24.ne rfl).trans ((p23.ne rfl).trans ((p22.ne rfl).trans ((p21.ne rfl).trans (p20.ne rfl)))))).trans s2
    replace s4 : a25.eval (.tmp 4) = .pointer (some ⟨q4, 0, none⟩) := ((p25.ne rfl).trans ((p24.ne rfl).trans ((p23.ne rfl).trans ((p22.ne rfl).trans ((p21.ne rfl).trans (p20.ne rfl)))))).trans s4
    replace s5 : a25.eval (.tmp 5) = .slice none 0 0 := ((p25.ne rfl).trans ((p24.ne rfl).trans ((p23.ne rfl).trans ((p22.ne rfl).trans ((p21.ne rfl).trans (p20.ne rfl)))))).trans s5
    replace s6 : a25.eval (.tmp 6) = .pointer (some ⟨q9, 0, none⟩) := ((p25.ne rfl).trans ((p24.ne rfl).trans ((p23.ne rfl).trans ((p22.ne rfl).trans ((p21.ne rfl).trans (p20.ne rfl)))))).trans s6
    refine hK17 _ _ ?_
    clear hK17
    refine wp_seq_k fun K23 hK23 => ?_
    refine wp_drawn (n := 34) [7] [6] [(7, 5)] (fun k_ v_ wx => match k_ with | 0 => v_ = .agg #[.int .i64 room, .slice A20 (zs.length - kk) c20, .slice B7 ds.length d7] | 1 => v_ = .pointer (some ⟨q2, 1, none⟩) | 2 => v_ = .slice A zs.length cp | 3 => v_ = .int .i64 ((kk : Nat) : Int) | 4 => v_ = .slice A kk cp | 5 => ∃ (A25 : Option Addr) (c25 : Nat), v_ = .slice A25 kk c25 ∧ ((wx).ownsRow w22.heap.size 26 4 (.slice A25 kk c25) kk ((zs.take kk).flatMap cRecord)) | _ => True) (by kernel_rfl) (by kernel_rfl) (by kernel_rfl) (by kernel_rfl) hs.size ?_ ?_ ?_
    · intro i v wa wb hb hr
      rcases i with _ | _ | _ | _ | _ | _ | _ | _ | i
      · exact hr
      · exact hr
      · exact hr
      · exact hr
      · exact hr
      · obtain ⟨A25, c25, hr, o_x25⟩ := hr; exact ⟨A25, c25, hr, own_below o_x25 hb⟩
      · trivial
      · trivial
      · trivial
    · refine d_step rfl rfl ?_ (d_step rfl rfl ?_ (d_step rfl rfl ?_ (d_step rfl rfl ?_ (d_step rfl rfl ?_ (d_step rfl rfl ?_ (d_chain rfl (d_late rfl rfl ?_ (d_nil))))))))
      · intro xv_ wx ρ hρ hwx hd K hK
        have e6 : ρ (.tmp 6) = .pointer (some ⟨q9, 0, none⟩) := (hρ.inn 6 rfl).trans s6
        have h_q9 := keep_below h_q9 hwx
        refine g_loadB rfl e6 Try.isAgg50 Try.sizeOf50 rfl h_q9 ?_
        exact hK _ _ (Below.refl _ _) rfl
      · intro xv_ wx ρ hρ hwx hd K hK
        have e2 : ρ (.tmp 2) = .pointer (some ⟨q2, 0, none⟩) := (hρ.inn 2 rfl).trans s2
        refine g_field (r := 1) rfl e2 Try.underlying50 rfl (fun w => Try.sizeOf47 w) rfl rfl ?_
        exact hK _ _ (Below.refl _ _) rfl
      · intro xv_ wx ρ hρ hwx hd K hK
        obtain r1 : xv_ 1 = .pointer (some ⟨q2, 1, none⟩) := hd 1 rfl
        have e29 : ρ (.tmp 29) = .pointer (some ⟨q2, 1, none⟩) := (hρ.out 1 29 rfl (by rw [hs.size]; decide) rfl).trans r1
        have h_q2 := keep_below h_q2 hwx
        refine g_load rfl e29 Try.isAgg47 (box_cell h_q2 rfl) ?_
        exact hK _ _ (Below.refl _ _) rfl
      · intro xv_ wx ρ hρ hwx hd K hK
        have e1 : ρ (.tmp 1) = .int .i64 ((kk : Nat) : Int) := (hρ.inn 1 rfl).trans s1
        refine g_move rfl e1 ?_
        exact hK _ _ (Below.refl _ _) rfl
      · intro xv_ wx ρ hρ hwx hd K hK
        obtain r2 : xv_ 2 = .slice A zs.length cp := hd 2 rfl
        have e30 : ρ (.tmp 30) = .slice A zs.length cp := (hρ.out 2 30 rfl (by rw [hs.size]; decide) rfl).trans r2
        obtain r3 : xv_ 3 = .int .i64 ((kk : Nat) : Int) := hd 3 rfl
        have e31 : ρ (.tmp 31) = .int .i64 ((kk : Nat) : Int) := (hρ.out 3 31 rfl (by rw [hs.size]; decide) rfl).trans r3
        refine g_head rfl e30 e31 Try.underlying47 (fun w => Try.sizeOf26 w) (by have := hnc_z; omega) ?_
        exact hK _ _ (Below.refl _ _) rfl
      · intro xv_ wx ρ hρ hwx hd K hK
        obtain r4 : xv_ 4 = .slice A kk cp := hd 4 rfl
        have e32 : ρ (.tmp 32) = .slice A kk cp := (hρ.out 4 32 rfl (by rw [hs.size]; decide) rfl).trans r4
        refine g_call rfl (hρ.fn _) Try.call63 (arr1 e32) ?_
        refine (cloneRecord_any _ _ _ (zs.take kk) _ (by simp only [List.length_take] <;> omega) (by omega) ((Rd.take cRecord_len (hr_z.below hB) rfl (by omega)).below hwx)).mono ?_
        rintro e wy ⟨A25, c25, rfl, o_x25, hb25⟩
        exact ⟨_, rfl, hK _ _ hb25 ⟨A25, c25, rfl, own_base o_x25 hwx.size⟩⟩
      · intro xv_ wx ρ hρ hwx hd
        exact ⟨_, fun w' => l_assign rfl rfl, trivial⟩
    · intro x0_ w26 hb_w26 hr0
      obtain r0 : x0_ 0 = .agg #[.int .i64 room, .slice A20 (zs.length - kk) c20, .slice B7 ds.length d7] := hr0 0 (by decide) rfl rfl
      obtain r1 : x0_ 1 = .pointer (some ⟨q2, 1, none⟩) := hr0 1 (by decide) rfl rfl
      obtain r2 : x0_ 2 = .slice A zs.length cp := hr0 2 (by decide) rfl rfl
      obtain r3 : x0_ 3 = .int .i64 ((kk : Nat) : Int) := hr0 3 (by decide) rfl rfl
      obtain r4 : x0_ 4 = .slice A kk cp := hr0 4 (by decide) rfl rfl
      obtain ⟨A25, c25, r5, o_x25⟩ : ∃ (A25 : Option Addr) (c25 : Nat), x0_ 5 = .slice A25 kk c25 ∧ ((w26).ownsRow w22.heap.size 26 4 (.slice A25 kk c25) kk ((zs.take kk).flatMap cRecord)) := hr0 5 (by decide) rfl rfl
      clear hr0
      have d_x25_q2 := own_ne_box o_x25 (lt_of_block h_q2)
      have d_x25_q4 := own_ne_box o_x25 (lt_of_block h_q4)
      have d_x25_q9 := own_ne_box o_x25 (lt_of_block h_q9)
      have m_z7_x25 := own_ne_row o_z7 o_x25 (Nat.le_refl _)
      have m_x25_z7 := ne_row_symm m_z7_x25
      have m_y7_x25 := own_ne_row o_y7 o_x25 (Nat.le_refl _)
      have m_x25_y7 := ne_row_symm m_y7_x25
      have m_x20_x25 := own_ne_row o_x20 o_x25 (Nat.le_refl _)
      have m_x25_x20 := ne_row_symm m_x20_x25
      have g_x25 : ∀ b, (A25 : Option Addr).map (·.block) = some b → w.heap.size ≤ b := fun b h => Nat.le_trans hB.size (own_row o_x25 b h).1
      replace o_x25 := own_base (base := w.heap.size) o_x25 hB.size
      replace h_q2 := keep_below h_q2 hb_w26
      replace h_q4 := keep_below h_q4 hb_w26
      replace h_q9 := keep_below h_q9 hb_w26
      replace o_z7 := own_below o_z7 hb_w26
      replace o_y7 := own_below o_y7 hb_w26
      replace o_x20 := own_below o_x20 hb_w26
      replace hB := hB.trans (hb_w26.mono hB.size)
      clear hb_w26
      intro op_ ho_ xv_ ρ hρ qx_ ql_ qk_
      obtain rfl := Option.some.inj ho_
      clear ho_
      have e4 : ρ (.tmp 4) = .pointer (some ⟨q4, 0, none⟩) := (hρ.inn 4 rfl).trans s4
      have e28 : ρ (.tmp 28) = .agg #[.int .i64 room, .slice A20 (zs.length - kk) c20, .slice B7 ds.length d7] := (hρ.out 0 28 rfl (by rw [hs.size]; decide) rfl).trans ((qx_ 0 (by decide) rfl rfl).trans r0)
      refine g_storeB rfl e4 e28 Try.sizeOf50 rfl rfl h_q4 rfl ?_
      intro w27 W_w27
      replace h_q2 := keep_wrote h_q2 W_w27 n_q4_q2
      replace h_q4 := W_w27.here
      replace h_q9 := keep_wrote h_q9 W_w27 n_q4_q9
      replace o_z7 := own_wrote o_z7 W_w27 d_z7_q4
      replace o_y7 := own_wrote o_y7 W_w27 d_y7_q4
      replace o_x20 := own_wrote o_x20 W_w27 d_x20_q4
      replace o_x25 := own_wrote o_x25 W_w27 d_x25_q4
      replace hB := below_wrote hB hB.size W_w27 g_q4.le
      clear W_w27
      clear e28 e4
      clear hρ qx_ ql_ qk_
      intro xv_ a26 hρ hsz hdf qx_ ql_ qk_ qlk_
      replace s4 : a26.eval (.tmp 4) = .pointer (some ⟨q4, 0, none⟩) := (hρ.inn 4 rfl).trans s4
      have s5 : a26.eval (.tmp 5) = .slice A25 kk c25 := (hρ.out 7 5 rfl (by rw [hs.size]; decide)).trans ((qlk_ (7, 5) (by simp)).trans ((qx_ 5 (by decide) rfl rfl).trans r5))
      replace hs : St 34 a26 := ⟨hsz.trans hs.size, hdf.trans hs.nodef⟩
      clear hρ hsz hdf qx_ ql_ qk_ qlk_
      refine hK23 _ _ ?_
      clear hK23
      refine wp_ret ?_
      try dsimp only [Exit.then, Exit.inBlock]
      refine ret2 hs Try.results37 (res_cell s4 h_q4 Try.isAgg50 Try.sizeOf50 rfl) (res_tmp s5) ?_
      refine ⟨_, rfl, ?_, hB⟩
      rw [hc.out.1, hc.out.2]
      have e1 : (zs.drop kk).length = zs.length - kk := by rw [List.length_drop]
      have e2 : (zs.take kk).length = kk := by rw [List.length_take]; omega
      rw [e1, e2]
      exact ⟨_, _, _, _, _, _, rfl, o_x20, o_y7, o_x25, m_x20_x25⟩
  · have hkn : zs.length ≤ zs.length := Nat.le_refl _
    have hc := Lib.hid (show trL room k zs ds = zs.drop zs.length ∧ trG room k zs ds = zs.take zs.length by unfold trL trG trOk; rw [hok, decide_eq_true (by omega : 0 ≤ k), show trN k zs = zs.length from by unfold trN; omega]; exact ⟨rfl, rfl⟩)
    refine enter 34 Try.func37 rfl rfl (Nat.le_of_ble_eq_true rfl) ?_
    intro a0 hs hargs
    have s0 : a0.eval (.tmp 0) = .agg #[.int .i64 room, .slice A zs.length cp, .slice B ds.length dp] := hargs 0 _ rfl
    have s1 : a0.eval (.tmp 1) = .int .i64 k := hargs 1 _ rfl
    clear hargs
    have hB : Below w.heap.size w w := Below.refl _ _
    refine wp_seq_k fun K1 hK1 => ?_
    refine wp_region_lit ?_
    refine q_val rfl rfl ?_
    refine g_box rfl s0 rfl ?_
    intro q2 w3 N_q2
    have g_q2 : GeB w.heap.size q2 := ⟨Nat.le_trans hB.size N_q2.lo⟩
    replace hB := below_new hB hB.size N_q2
    have h_q2 := N_q2.here
    clear N_q2
    intro a1 p1
    have s2 : a1.eval (.tmp 2) = .pointer (some ⟨q2, 0, none⟩) := p1.at hs (by decide)
    replace hs := p1.st hs
    refine q_val rfl rfl ?_
    refine g_alloc rfl Try.zeroValue50 rfl ?_
    intro q4 w5 N_q4
    have n_q2_q4 := N_q4.ne ⟨lt_of_block h_q2⟩
    have n_q4_q2 := n_q2_q4.symm
    have g_q4 : GeB w.heap.size q4 := ⟨Nat.le_trans hB.size N_q4.lo⟩
    replace h_q2 := keep_below h_q2 N_q4.below
    replace hB := below_new hB hB.size N_q4
    have h_q4 := N_q4.here
    clear N_q4
    intro a2 p2
    have s4 : a2.eval (.tmp 4) = .pointer (some ⟨q4, 0, none⟩) := p2.at hs (by decide)
    replace hs := p2.st hs
    refine q_val rfl rfl ?_
    refine g_assign rfl rfl ?_
    intro a3 p3
    have s5 : a3.eval (.tmp 5) = .slice none 0 0 := p3.at hs (by decide)
    replace hs := p3.st hs
    refine wpList_nil ?_
    replace s1 : a3.eval (.tmp 1) = .int .i64 k := ((p3.ne rfl).trans ((p2.ne rfl).trans (p1.ne rfl))).trans s1
    replace s2 : a3.eval (.tmp 2) = .pointer (some ⟨q2, 0, none⟩) := ((p3.ne rfl).trans (p2.ne rfl)).trans s2
    replace s4 : a3.eval (.tmp 4) = .pointer (some ⟨q4, 0, none⟩) := (p3.ne rfl).trans s4
    refine hK1 _ _ ?_
    clear hK1
    refine wp_seq_k fun K6 hK6 => ?_
    refine wp_region_lit ?_
    refine q_val rfl rfl ?_
    refine g_loadB rfl s2 Try.isAgg50 Try.sizeOf50 rfl h_q2 ?_
    intro a4 p4
    have s7 : a4.eval (.tmp 7) = .agg #[.int .i64 room, .slice A zs.length cp, .slice B ds.length dp] := p4.at hs (by decide)
    replace hs := p4.st hs
    refine q_val rfl rfl ?_
    refine g_call rfl rfl Try.call58 (arr1 s7) ?_
    refine (cloneRecorder_any _ _ _ _ _ _ _ zs ds _ rfl (by omega) (hr_z.below hB) rfl (by omega) (hr_d.below hB)).mono ?_
    rintro e w8 ⟨A7, c7, B7, d7, rfl, o_z7, o_y7, hb7⟩
    refine ⟨_, rfl, ?_⟩
    have m_z7_y7 := own_ne_type o_z7 o_y7 (by decide)
    have m_y7_z7 := ne_row_symm m_z7_y7
    have d_z7_q2 := own_ne_box o_z7 (lt_of_block h_q2)
    have d_z7_q4 := own_ne_box o_z7 (lt_of_block h_q4)
    have g_z7 : ∀ b, (A7 : Option Addr).map (·.block) = some b → w.heap.size ≤ b := fun b h => Nat.le_trans hB.size (own_row o_z7 b h).1
    replace o_z7 := own_base (base := w.heap.size) o_z7 hB.size
    have d_y7_q2 := own_ne_box o_y7 (lt_of_block h_q2)
    have d_y7_q4 := own_ne_box o_y7 (lt_of_block h_q4)
    have g_y7 : ∀ b, (B7 : Option Addr).map (·.block) = some b → w.heap.size ≤ b := fun b h => Nat.le_trans hB.size (own_row o_y7 b h).1
    replace o_y7 := own_base (base := w.heap.size) o_y7 hB.size
    replace h_q2 := keep_below h_q2 hb7
    replace h_q4 := keep_below h_q4 hb7
    replace hB := hB.trans (hb7.mono hB.size)
    clear hb7
    intro a5 p5
    have s8 : a5.eval (.tmp 8) = .agg #[.int .i64 room, .slice A7 zs.length c7, .slice B7 ds.length d7] := p5.at hs (by decide)
    replace hs := p5.st hs
    refine q_val rfl rfl ?_
    refine g_alloc rfl Try.zeroValue50 rfl ?_
    intro q9 w10 N_q9
    have n_q2_q9 := N_q9.ne ⟨lt_of_block h_q2⟩
    have n_q9_q2 := n_q2_q9.symm
    have n_q4_q9 := N_q9.ne ⟨lt_of_block h_q4⟩
    have n_q9_q4 := n_q4_q9.symm
    have d_z7_q9 := own_ne_new o_z7 N_q9
    have d_y7_q9 := own_ne_new o_y7 N_q9
    have g_q9 : GeB w.heap.size q9 := ⟨Nat.le_trans hB.size N_q9.lo⟩
    replace h_q2 := keep_below h_q2 N_q9.below
    replace h_q4 := keep_below h_q4 N_q9.below
    replace o_z7 := own_below o_z7 N_q9.below
    replace o_y7 := own_below o_y7 N_q9.below
    replace hB := below_new hB hB.size N_q9
    have h_q9 := N_q9.here
    clear N_q9
    intro a6 p6
    have s6 : a6.eval (.tmp 6) = .pointer (some ⟨q9, 0, none⟩) := p6.at hs (by decide)
    replace hs := p6.st hs
    refine q_eff rfl rfl ?_
    refine g_storeB rfl s6 ((p6.ne rfl).trans s8) Try.sizeOf50 rfl rfl h_q9 rfl ?_
    intro w11 W_w11
    replace h_q2 := keep_wrote h_q2 W_w11 n_q9_q2
    replace h_q4 := keep_wrote h_q4 W_w11 n_q9_q4
    replace h_q9 := W_w11.here
    replace o_z7 := own_wrote o_z7 W_w11 d_z7_q9
    replace o_y7 := own_wrote o_y7 W_w11 d_y7_q9
    replace hB := below_wrote hB hB.size W_w11 g_q9.le
    clear W_w11
    refine wpList_nil ?_
    replace s1 : a6.eval (.tmp 1) = .int .i64 k := ((p6.ne rfl).trans ((p5.ne rfl).trans (p4.ne rfl))).trans s1
    replace s2 : a6.eval (.tmp 2) = .pointer (some ⟨q2, 0, none⟩) := ((p6.ne rfl).trans ((p5.ne rfl).trans (p4.ne rfl))).trans s2
    replace s4 : a6.eval (.tmp 4) = .pointer (some ⟨q4, 0, none⟩) := ((p6.ne rfl).trans ((p5.ne rfl).trans (p4.ne rfl))).trans s4
    replace s5 : a6.eval (.tmp 5) = .slice none 0 0 := ((p6.ne rfl).trans ((p5.ne rfl).trans (p4.ne rfl))).trans s5
    refine hK6 _ _ ?_
    clear hK6
    refine wp_seq_k fun K12 hK12 => ?_
    refine wp_seq_k fun K13 hK13 => ?_
    refine wp_region_lit ?_
    refine q_val rfl rfl ?_
    refine g_loadB rfl s2 Try.isAgg50 Try.sizeOf50 rfl h_q2 ?_
    intro a7 p7
    have s9 : a7.eval (.tmp 9) = .agg #[.int .i64 room, .slice A zs.length cp, .slice B ds.length dp] := p7.at hs (by decide)
    replace hs := p7.st hs
    refine q_val rfl rfl ?_
    refine g_call rfl rfl Try.call35 (arr1 s9) ?_
    refine (recorderOk_any _ _ _ _ _ _ _ zs ds _ rfl (by omega) hT (hr_z.below hB) rfl (by omega) (hr_d.below hB)).mono ?_
    rintro e w15 ⟨rfl, hb14⟩
    refine ⟨_, rfl, ?_⟩
    replace h_q2 := keep_below h_q2 hb14
    replace h_q4 := keep_below h_q4 hb14
    replace h_q9 := keep_below h_q9 hb14
    replace o_z7 := own_below o_z7 hb14
    replace o_y7 := own_below o_y7 hb14
    replace hB := hB.trans (hb14.mono hB.size)
    clear hb14
    intro a8 p8
    have s10 : a8.eval (.tmp 10) = .bool true := (p8.at hs (by decide)).trans (congrArg Value.bool hok)
    replace hs := p8.st hs
    refine q_val rfl rfl ?_
    refine g_not rfl s10 ?_
    intro a9 p9
    have s11 : a9.eval (.tmp 11) = .bool false := p9.at hs (by decide)
    replace hs := p9.st hs
    refine q_val rfl rfl ?_
    refine g_move rfl s11 ?_
    intro a10 p10
    have s12 : a10.eval (.tmp 12) = .bool false := p10.at hs (by decide)
    replace hs := p10.st hs
    refine q_take rfl rfl s12 rfl ?_
    refine g_move rfl (((p10.ne rfl).trans ((p9.ne rfl).trans ((p8.ne rfl).trans (p7.ne rfl)))).trans s1) ?_
    intro a11 p11
    have s13 : a11.eval (.tmp 13) = .int .i64 k := p11.at hs (by decide)
    replace hs := p11.st hs
    refine q_take rfl rfl ((p11.ne rfl).trans s12) rfl ?_
    refine g_lss rfl s13 rfl ?_
    intro a12 p12
    have s14 : a12.eval (.tmp 14) = .bool false := (p12.at hs (by decide)).trans (congrArg Value.bool (decide_eq_false (by omega)))
    replace hs := p12.st hs
    refine q_val rfl rfl ?_
    refine g_pick_f rfl (((p12.ne rfl).trans (p11.ne rfl)).trans s12) s14 ?_
    intro a13 p13
    have s15 : a13.eval (.tmp 15) = .bool false := p13.at hs (by decide)
    replace hs := p13.st hs
    refine wpList_nil ?_
    replace s1 : a13.eval (.tmp 1) = .int .i64 k := ((p13.ne rfl).trans ((p12.ne rfl).trans ((p11.ne rfl).trans ((p10.ne rfl).trans ((p9.ne rfl).trans ((p8.ne rfl).trans (p7.ne rfl))))))).trans s1
    replace s2 : a13.eval (.tmp 2) = .pointer (some ⟨q2, 0, none⟩) := ((p13.ne rfl).trans ((p12.ne rfl).trans ((p11.ne rfl).trans ((p10.ne rfl).trans ((p9.ne rfl).trans ((p8.ne rfl).trans (p7.ne rfl))))))).trans s2
    replace s4 : a13.eval (.tmp 4) = .pointer (some ⟨q4, 0, none⟩) := ((p13.ne rfl).trans ((p12.ne rfl).trans ((p11.ne rfl).trans ((p10.ne rfl).trans ((p9.ne rfl).trans ((p8.ne rfl).trans (p7.ne rfl))))))).trans s4
    replace s5 : a13.eval (.tmp 5) = .slice none 0 0 := ((p13.ne rfl).trans ((p12.ne rfl).trans ((p11.ne rfl).trans ((p10.ne rfl).trans ((p9.ne rfl).trans ((p8.ne rfl).trans (p7.ne rfl))))))).trans s5
    replace s6 : a13.eval (.tmp 6) = .pointer (some ⟨q9, 0, none⟩) := ((p13.ne rfl).trans ((p12.ne rfl).trans ((p11.ne rfl).trans ((p10.ne rfl).trans ((p9.ne rfl).trans ((p8.ne rfl).trans (p7.ne rfl))))))).trans s6
    refine hK13 _ _ ?_
    clear hK13
    refine c_false s15 ?_
    refine wp_skip ?_
    refine hK12 _ _ ?_
    clear hK12
    refine wp_seq_k fun K16 hK16 => ?_
    refine wp_region_lit ?_
    refine q_val rfl rfl ?_
    refine g_move rfl s1 ?_
    intro a14 p14
    have s17 : a14.eval (.tmp 17) = .int .i64 k := p14.at hs (by decide)
    replace hs := p14.st hs
    refine q_val rfl rfl ?_
    refine g_field (r := 1) rfl ((p14.ne rfl).trans s2) Try.underlying50 rfl (fun w => Try.sizeOf47 w) rfl rfl ?_
    intro a15 p15
    have s18 : a15.eval (.tmp 18) = .pointer (some ⟨q2, 1, none⟩) := p15.at hs (by decide)
    replace hs := p15.st hs
    refine q_val rfl rfl ?_
    refine g_load rfl s18 Try.isAgg47 (box_cell h_q2 rfl) ?_
    intro a16 p16
    have s19 : a16.eval (.tmp 19) = .slice A zs.length cp := p16.at hs (by decide)
    replace hs := p16.st hs
    refine q_val rfl rfl ?_
    refine g_len (e := _) rfl Try.underlying47 s19 ?_
    intro a17 p17
    have s20 : a17.eval (.tmp 20) = .int .i64 ((zs.length : Nat) : Int) := p17.at hs (by decide)
    replace hs := p17.st hs
    refine q_val rfl rfl ?_
    refine g_min (r := ((zs.length : Nat) : Int)) rfl (((p17.ne rfl).trans ((p16.ne rfl).trans (p15.ne rfl))).trans s17) s20 (by split <;> omega) ?_
    intro a18 p18
    have s21 : a18.eval (.tmp 21) = .int .i64 ((zs.length : Nat) : Int) := p18.at hs (by decide)
    replace hs := p18.st hs
    refine q_val rfl rfl ?_
    refine g_assign rfl s21 ?_
    intro a19 p19
    have s1 : a19.eval (.tmp 1) = .int .i64 ((zs.length : Nat) : Int) := p19.at hs (by decide)
    replace hs := p19.st hs
    refine wpList_nil ?_
    replace s2 : a19.eval (.tmp 2) = .pointer (some ⟨q2, 0, none⟩) := ((p19.ne rfl).trans ((p18.ne rfl).trans ((p17.ne rfl).trans ((p16.ne rfl).trans ((p15.ne rfl).trans (p14.ne rfl)))))).trans s2
    replace s4 : a19.eval (.tmp 4) = .pointer (some ⟨q4, 0, none⟩) := ((p19.ne rfl).trans ((p18.ne rfl).trans ((p17.ne rfl).trans ((p16.ne rfl).trans ((p15.ne rfl).trans (p14.ne rfl)))))).trans s4
    replace s5 : a19.eval (.tmp 5) = .slice none 0 0 := ((p19.ne rfl).trans ((p18.ne rfl).trans ((p17.ne rfl).trans ((p16.ne rfl).trans ((p15.ne rfl).trans (p14.ne rfl)))))).trans s5
    replace s6 : a19.eval (.tmp 6) = .pointer (some ⟨q9, 0, none⟩) := ((p19.ne rfl).trans ((p18.ne rfl).trans ((p17.ne rfl).trans ((p16.ne rfl).trans ((p15.ne rfl).trans (p14.ne rfl)))))).trans s6
    refine hK16 _ _ ?_
    clear hK16
    refine wp_seq_k fun K17 hK17 => ?_
    refine wp_region_lit ?_
    refine q_val rfl rfl ?_
    refine g_field (r := 1) rfl s2 Try.underlying50 rfl (fun w => Try.sizeOf47 w) rfl rfl ?_
    intro a20 p20
    have s22 : a20.eval (.tmp 22) = .pointer (some ⟨q2, 1, none⟩) := p20.at hs (by decide)
    replace hs := p20.st hs
    refine q_val rfl rfl ?_
    refine g_load rfl s22 Try.isAgg47 (box_cell h_q2 rfl) ?_
    intro a21 p21
    have s23 : a21.eval (.tmp 23) = .slice A zs.length cp := p21.at hs (by decide)
    replace hs := p21.st hs
    refine q_val rfl rfl ?_
    refine g_move rfl (((p21.ne rfl).trans (p20.ne rfl)).trans s1) ?_
    intro a22 p22
    have s24 : a22.eval (.tmp 24) = .int .i64 ((zs.length : Nat) : Int) := p22.at hs (by decide)
    replace hs := p22.st hs
    obtain ⟨A18, hA_v19⟩ : ∃ x_, x_ = tailA 4 A cp zs.length := ⟨_, rfl⟩
    have T_v19 : Tail 4 A A18 zs.length cp zs.length := hA_v19 ▸ tailA_of 4 A zs.length cp zs.length hnc_z
    refine q_val rfl rfl ?_
    refine g_tailD rfl ((p22.ne rfl).trans s23) s24 Try.underlying47 (fun w => Try.sizeOf26 w) (by omega) rfl rfl hA_v19 ?_
    intro a23 p23
    have s25 : a23.eval (.tmp 25) = .slice A18 (zs.length - zs.length) (cp - zs.length) := p23.at hs (by decide)
    replace hs := p23.st hs
    refine q_val rfl rfl ?_
    refine g_call rfl rfl Try.call63 (arr1 s25) ?_
    refine (cloneRecord_any _ _ _ (zs.drop zs.length) _ (by simp only [List.length_drop] <;> omega) (by omega) (T_v19.rd cRecord_len rfl (by omega) (hr_z.below hB))).mono ?_
    rintro e w21 ⟨A20, c20, rfl, o_x20, hb20⟩
    refine ⟨_, rfl, ?_⟩
    have d_x20_q2 := own_ne_box o_x20 (lt_of_block h_q2)
    have d_x20_q4 := own_ne_box o_x20 (lt_of_block h_q4)
    have d_x20_q9 := own_ne_box o_x20 (lt_of_block h_q9)
    have m_z7_x20 := own_ne_row o_z7 o_x20 (Nat.le_refl _)
    have m_x20_z7 := ne_row_symm m_z7_x20
    have m_y7_x20 := own_ne_row o_y7 o_x20 (Nat.le_refl _)
    have m_x20_y7 := ne_row_symm m_y7_x20
    have g_x20 : ∀ b, (A20 : Option Addr).map (·.block) = some b → w.heap.size ≤ b := fun b h => Nat.le_trans hB.size (own_row o_x20 b h).1
    replace o_x20 := own_base (base := w.heap.size) o_x20 hB.size
    replace h_q2 := keep_below h_q2 hb20
    replace h_q4 := keep_below h_q4 hb20
    replace h_q9 := keep_below h_q9 hb20
    replace o_z7 := own_below o_z7 hb20
    replace o_y7 := own_below o_y7 hb20
    replace hB := hB.trans (hb20.mono hB.size)
    clear hb20
    intro a24 p24
    have s26 : a24.eval (.tmp 26) = .slice A20 (zs.length - zs.length) c20 := p24.at hs (by decide)
    replace hs := p24.st hs
    refine q_val rfl rfl ?_
    refine g_field (r := 1) rfl (((p24.ne rfl).trans ((p23.ne rfl).trans ((p22.ne rfl).trans ((p21.ne rfl).trans (p20.ne rfl))))).trans s6) Try.underlying50 rfl (fun w => Try.sizeOf47 w) rfl rfl ?_
    intro a25 p25
    have s27 : a25.eval (.tmp 27) = .pointer (some ⟨q9, 1, none⟩) := p25.at hs (by decide)
    replace hs := p25.st hs
    refine q_eff rfl rfl ?_
    refine g_store (cs' := #[.int .i64 room, .slice A20 (zs.length - zs.length) c20, .slice B7 ds.length d7]) rfl s27 ((p25.ne rfl).trans s26) Try.sizeOf47 rfl h_q9 (Nat.le_of_ble_eq_true rfl) rfl ?_
    intro w22 W_w22
    replace h_q2 := keep_wrote h_q2 W_w22 n_q9_q2
    replace h_q4 := keep_wrote h_q4 W_w22 n_q9_q4
    replace h_q9 := W_w22.here
    replace o_z7 := own_wrote o_z7 W_w22 d_z7_q9
    replace o_y7 := own_wrote o_y7 W_w22 d_y7_q9
    replace o_x20 := own_wrote o_x20 W_w22 d_x20_q9
    replace hB := below_wrote hB hB.size W_w22 g_q9.le
    clear W_w22
    refine wpList_nil ?_
    replace s1 : a25.eval (.tmp 1) = .int .i64 ((zs.length : Nat) : Int) := ((p25.ne rfl).trans ((p24.ne rfl).trans ((p23.ne rfl).trans ((p22.ne rfl).trans ((p21.ne rfl).trans (p20.ne rfl)))))).trans s1
    replace s2 : a25.eval (.tmp 2) = .pointer (some ⟨q2, 0, none⟩) := ((p25.ne rfl).trans ((p24.ne rfl).trans ((p23.ne rfl).trans ((p22.ne rfl).trans ((p21.ne rfl).trans (p20.ne rfl)))))).trans s2
    replace s4 : a25.eval (.tmp 4) = .pointer (some ⟨q4, 0, none⟩) := ((p25.ne rfl).trans ((p24.ne rfl).trans ((p23.ne rfl).trans ((p22.ne rfl).trans ((p21.ne rfl).trans (p20.ne rfl)))))).trans s4
    replace s5 : a25.eval (.tmp 5) = .slice none 0 0 := ((p25.ne rfl).trans ((p24.ne rfl).trans ((p23.ne rfl).trans ((p22.ne rfl).trans ((p21.ne rfl).trans (p20.ne rfl)))))).trans s5
    replace s6 : a25.eval (.tmp 6) = .pointer (some ⟨q9, 0, none⟩) := ((p25.ne rfl).trans ((p24.ne rfl).trans ((p23.ne rfl).trans ((p22.ne rfl).trans ((p21.ne rfl).trans (p20.ne rfl)))))).trans s6
    refine hK17 _ _ ?_
    clear hK17
    refine wp_seq_k fun K23 hK23 => ?_
    refine wp_drawn (n := 34) [7] [6] [(7, 5)] (fun k_ v_ wx => match k_ with | 0 => v_ = .agg #[.int .i64 room, .slice A20 (zs.length - zs.length) c20, .slice B7 ds.length d7] | 1 => v_ = .pointer (some ⟨q2, 1, none⟩) | 2 => v_ = .slice A zs.length cp | 3 => v_ = .int .i64 ((zs.length : Nat) : Int) | 4 => v_ = .slice A zs.length cp | 5 => ∃ (A25 : Option Addr) (c25 : Nat), v_ = .slice A25 zs.length c25 ∧ ((wx).ownsRow w22.heap.size 26 4 (.slice A25 zs.length c25) zs.length ((zs.take zs.length).flatMap cRecord)) | _ => True) (by kernel_rfl) (by kernel_rfl) (by kernel_rfl) (by kernel_rfl) hs.size ?_ ?_ ?_
    · intro i v wa wb hb hr
      rcases i with _ | _ | _ | _ | _ | _ | _ | _ | i
      · exact hr
      · exact hr
      · exact hr
      · exact hr
      · exact hr
      · obtain ⟨A25, c25, hr, o_x25⟩ := hr; exact ⟨A25, c25, hr, own_below o_x25 hb⟩
      · trivial
      · trivial
      · trivial
    · refine d_step rfl rfl ?_ (d_step rfl rfl ?_ (d_step rfl rfl ?_ (d_step rfl rfl ?_ (d_step rfl rfl ?_ (d_step rfl rfl ?_ (d_chain rfl (d_late rfl rfl ?_ (d_nil))))))))
      · intro xv_ wx ρ hρ hwx hd K hK
        have e6 : ρ (.tmp 6) = .pointer (some ⟨q9, 0, none⟩) := (hρ.inn 6 rfl).trans s6
        have h_q9 := keep_below h_q9 hwx
        refine g_loadB rfl e6 Try.isAgg50 Try.sizeOf50 rfl h_q9 ?_
        exact hK _ _ (Below.refl _ _) rfl
      · intro xv_ wx ρ hρ hwx hd K hK
        have e2 : ρ (.tmp 2) = .pointer (some ⟨q2, 0, none⟩) := (hρ.inn 2 rfl).trans s2
        refine g_field (r := 1) rfl e2 Try.underlying50 rfl (fun w => Try.sizeOf47 w) rfl rfl ?_
        exact hK _ _ (Below.refl _ _) rfl
      · intro xv_ wx ρ hρ hwx hd K hK
        obtain r1 : xv_ 1 = .pointer (some ⟨q2, 1, none⟩) := hd 1 rfl
        have e29 : ρ (.tmp 29) = .pointer (some ⟨q2, 1, none⟩) := (hρ.out 1 29 rfl (by rw [hs.size]; decide) rfl).trans r1
        have h_q2 := keep_below h_q2 hwx
        refine g_load rfl e29 Try.isAgg47 (box_cell h_q2 rfl) ?_
        exact hK _ _ (Below.refl _ _) rfl
      · intro xv_ wx ρ hρ hwx hd K hK
        have e1 : ρ (.tmp 1) = .int .i64 ((zs.length : Nat) : Int) := (hρ.inn 1 rfl).trans s1
        refine g_move rfl e1 ?_
        exact hK _ _ (Below.refl _ _) rfl
      · intro xv_ wx ρ hρ hwx hd K hK
        obtain r2 : xv_ 2 = .slice A zs.length cp := hd 2 rfl
        have e30 : ρ (.tmp 30) = .slice A zs.length cp := (hρ.out 2 30 rfl (by rw [hs.size]; decide) rfl).trans r2
        obtain r3 : xv_ 3 = .int .i64 ((zs.length : Nat) : Int) := hd 3 rfl
        have e31 : ρ (.tmp 31) = .int .i64 ((zs.length : Nat) : Int) := (hρ.out 3 31 rfl (by rw [hs.size]; decide) rfl).trans r3
        refine g_head rfl e30 e31 Try.underlying47 (fun w => Try.sizeOf26 w) (by have := hnc_z; omega) ?_
        exact hK _ _ (Below.refl _ _) rfl
      · intro xv_ wx ρ hρ hwx hd K hK
        obtain r4 : xv_ 4 = .slice A zs.length cp := hd 4 rfl
        have e32 : ρ (.tmp 32) = .slice A zs.length cp := (hρ.out 4 32 rfl (by rw [hs.size]; decide) rfl).trans r4
        refine g_call rfl (hρ.fn _) Try.call63 (arr1 e32) ?_
        refine (cloneRecord_any _ _ _ (zs.take zs.length) _ (by simp only [List.length_take] <;> omega) (by omega) ((Rd.take cRecord_len (hr_z.below hB) rfl (by omega)).below hwx)).mono ?_
        rintro e wy ⟨A25, c25, rfl, o_x25, hb25⟩
        exact ⟨_, rfl, hK _ _ hb25 ⟨A25, c25, rfl, own_base o_x25 hwx.size⟩⟩
      · intro xv_ wx ρ hρ hwx hd
        exact ⟨_, fun w' => l_assign rfl rfl, trivial⟩
    · intro x0_ w26 hb_w26 hr0
      obtain r0 : x0_ 0 = .agg #[.int .i64 room, .slice A20 (zs.length - zs.length) c20, .slice B7 ds.length d7] := hr0 0 (by decide) rfl rfl
      obtain r1 : x0_ 1 = .pointer (some ⟨q2, 1, none⟩) := hr0 1 (by decide) rfl rfl
      obtain r2 : x0_ 2 = .slice A zs.length cp := hr0 2 (by decide) rfl rfl
      obtain r3 : x0_ 3 = .int .i64 ((zs.length : Nat) : Int) := hr0 3 (by decide) rfl rfl
      obtain r4 : x0_ 4 = .slice A zs.length cp := hr0 4 (by decide) rfl rfl
      obtain ⟨A25, c25, r5, o_x25⟩ : ∃ (A25 : Option Addr) (c25 : Nat), x0_ 5 = .slice A25 zs.length c25 ∧ ((w26).ownsRow w22.heap.size 26 4 (.slice A25 zs.length c25) zs.length ((zs.take zs.length).flatMap cRecord)) := hr0 5 (by decide) rfl rfl
      clear hr0
      have d_x25_q2 := own_ne_box o_x25 (lt_of_block h_q2)
      have d_x25_q4 := own_ne_box o_x25 (lt_of_block h_q4)
      have d_x25_q9 := own_ne_box o_x25 (lt_of_block h_q9)
      have m_z7_x25 := own_ne_row o_z7 o_x25 (Nat.le_refl _)
      have m_x25_z7 := ne_row_symm m_z7_x25
      have m_y7_x25 := own_ne_row o_y7 o_x25 (Nat.le_refl _)
      have m_x25_y7 := ne_row_symm m_y7_x25
      have m_x20_x25 := own_ne_row o_x20 o_x25 (Nat.le_refl _)
      have m_x25_x20 := ne_row_symm m_x20_x25
      have g_x25 : ∀ b, (A25 : Option Addr).map (·.block) = some b → w.heap.size ≤ b := fun b h => Nat.le_trans hB.size (own_row o_x25 b h).1
      replace o_x25 := own_base (base := w.heap.size) o_x25 hB.size
      replace h_q2 := keep_below h_q2 hb_w26
      replace h_q4 := keep_below h_q4 hb_w26
      replace h_q9 := keep_below h_q9 hb_w26
      replace o_z7 := own_below o_z7 hb_w26
      replace o_y7 := own_below o_y7 hb_w26
      replace o_x20 := own_below o_x20 hb_w26
      replace hB := hB.trans (hb_w26.mono hB.size)
      clear hb_w26
      intro op_ ho_ xv_ ρ hρ qx_ ql_ qk_
      obtain rfl := Option.some.inj ho_
      clear ho_
      have e4 : ρ (.tmp 4) = .pointer (some ⟨q4, 0, none⟩) := (hρ.inn 4 rfl).trans s4
      have e28 : ρ (.tmp 28) = .agg #[.int .i64 room, .slice A20 (zs.length - zs.length) c20, .slice B7 ds.length d7] := (hρ.out 0 28 rfl (by rw [hs.size]; decide) rfl).trans ((qx_ 0 (by decide) rfl rfl).trans r0)
      refine g_storeB rfl e4 e28 Try.sizeOf50 rfl rfl h_q4 rfl ?_
      intro w27 W_w27
      replace h_q2 := keep_wrote h_q2 W_w27 n_q4_q2
      replace h_q4 := W_w27.here
      replace h_q9 := keep_wrote h_q9 W_w27 n_q4_q9
      replace o_z7 := own_wrote o_z7 W_w27 d_z7_q4
      replace o_y7 := own_wrote o_y7 W_w27 d_y7_q4
      replace o_x20 := own_wrote o_x20 W_w27 d_x20_q4
      replace o_x25 := own_wrote o_x25 W_w27 d_x25_q4
      replace hB := below_wrote hB hB.size W_w27 g_q4.le
      clear W_w27
      clear e28 e4
      clear hρ qx_ ql_ qk_
      intro xv_ a26 hρ hsz hdf qx_ ql_ qk_ qlk_
      replace s4 : a26.eval (.tmp 4) = .pointer (some ⟨q4, 0, none⟩) := (hρ.inn 4 rfl).trans s4
      have s5 : a26.eval (.tmp 5) = .slice A25 zs.length c25 := (hρ.out 7 5 rfl (by rw [hs.size]; decide)).trans ((qlk_ (7, 5) (by simp)).trans ((qx_ 5 (by decide) rfl rfl).trans r5))
      replace hs : St 34 a26 := ⟨hsz.trans hs.size, hdf.trans hs.nodef⟩
      clear hρ hsz hdf qx_ ql_ qk_ qlk_
      refine hK23 _ _ ?_
      clear hK23
      refine wp_ret ?_
      try dsimp only [Exit.then, Exit.inBlock]
      refine ret2 hs Try.results37 (res_cell s4 h_q4 Try.isAgg50 Try.sizeOf50 rfl) (res_tmp s5) ?_
      refine ⟨_, rfl, ?_, hB⟩
      rw [hc.out.1, hc.out.2]
      have e1 : (zs.drop zs.length).length = zs.length - zs.length := by rw [List.length_drop]
      have e2 : (zs.take zs.length).length = zs.length := by rw [List.length_take]; omega
      rw [e1, e2]
      exact ⟨_, _, _, _, _, _, rfl, o_x20, o_y7, o_x25, m_x20_x25⟩
set_option maxRecDepth 100000 in
set_option maxHeartbeats 4000000 in
theorem sTakeRecords_any (room k : Int) (A B : Option Addr) (n cp m dp : Nat) (zs : List ERecord) (ds : List Int) (w : World) (hn : zs.length = n) (hb : n ≤ 1048576) (hnc_z : n ≤ cp) (_hcm : cp ≤ 9223372036854775807) (hT : ∀ z ∈ zs, Txt z.f3) (hr_z : Rd w 4 A n (zs.flatMap cRecord)) (hnn_z : A = none → n = 0 ∧ cp = 0) (hm : ds.length = m) (hbm : m ≤ 1048576) (hnn_d : B = none → m = 0 ∧ dp = 0) (hr_d : Rd w 1 B m (ds.flatMap cI)) :
    Calls Try.prog 45 #[.agg #[.int .i64 room, .slice A n cp, .slice B m dp], .int .i64 k] w fun e w' => ∃ v, e = .returned v ∧ TRes w.heap.size w' room (trL room k zs ds).length ds.length (trG room k zs ds).length (trL room k zs ds) (trG room k zs ds) ds v ∧ Below w.heap.size w w' := by
  subst hn
  subst hm
  cases hok : rcOk room zs ds
  · have hc := Lib.hid (show trL room k zs ds = zs ∧ trG room k zs ds = [] by unfold trL trG trOk; rw [hok]; exact ⟨rfl, rfl⟩)
    refine enter 37 Try.func45 rfl rfl (Nat.le_of_ble_eq_true rfl) ?_
    intro a0 hs hargs
    have s0 : a0.eval (.tmp 0) = .agg #[.int .i64 room, .slice A zs.length cp, .slice B ds.length dp] := hargs 0 _ rfl
    have s1 : a0.eval (.tmp 1) = .int .i64 k := hargs 1 _ rfl
    clear hargs
    have hB : Below w.heap.size w w := Below.refl _ _
    refine wp_seq_k fun K1 hK1 => ?_
    refine wp_region_lit ?_
    refine q_val rfl rfl ?_
    refine g_box rfl s0 rfl ?_
    intro q2 w3 N_q2
    have g_q2 : GeB w.heap.size q2 := ⟨Nat.le_trans hB.size N_q2.lo⟩
    replace hB := below_new hB hB.size N_q2
    have h_q2 := N_q2.here
    clear N_q2
    intro a1 p1
    have s2 : a1.eval (.tmp 2) = .pointer (some ⟨q2, 0, none⟩) := p1.at hs (by decide)
    replace hs := p1.st hs
    refine q_val rfl rfl ?_
    refine g_alloc rfl Try.zeroValue50 rfl ?_
    intro q4 w5 N_q4
    have n_q2_q4 := N_q4.ne ⟨lt_of_block h_q2⟩
    have n_q4_q2 := n_q2_q4.symm
    have g_q4 : GeB w.heap.size q4 := ⟨Nat.le_trans hB.size N_q4.lo⟩
    replace h_q2 := keep_below h_q2 N_q4.below
    replace hB := below_new hB hB.size N_q4
    have h_q4 := N_q4.here
    clear N_q4
    intro a2 p2
    have s4 : a2.eval (.tmp 4) = .pointer (some ⟨q4, 0, none⟩) := p2.at hs (by decide)
    replace hs := p2.st hs
    refine q_val rfl rfl ?_
    refine g_assign rfl rfl ?_
    intro a3 p3
    have s5 : a3.eval (.tmp 5) = .slice none 0 0 := p3.at hs (by decide)
    replace hs := p3.st hs
    refine wpList_nil ?_
    replace s1 : a3.eval (.tmp 1) = .int .i64 k := ((p3.ne rfl).trans ((p2.ne rfl).trans (p1.ne rfl))).trans s1
    replace s2 : a3.eval (.tmp 2) = .pointer (some ⟨q2, 0, none⟩) := ((p3.ne rfl).trans (p2.ne rfl)).trans s2
    replace s4 : a3.eval (.tmp 4) = .pointer (some ⟨q4, 0, none⟩) := (p3.ne rfl).trans s4
    refine hK1 _ _ ?_
    clear hK1
    refine wp_seq_k fun K6 hK6 => ?_
    refine wp_region_lit ?_
    refine q_val rfl rfl ?_
    refine g_loadB rfl s2 Try.isAgg50 Try.sizeOf50 rfl h_q2 ?_
    intro a4 p4
    have s7 : a4.eval (.tmp 7) = .agg #[.int .i64 room, .slice A zs.length cp, .slice B ds.length dp] := p4.at hs (by decide)
    replace hs := p4.st hs
    refine q_val rfl rfl ?_
    refine g_call rfl rfl Try.call74 (arr1 s7) ?_
    refine (copyRecorder_any _ _ _ _ _ _ _ zs ds _ rfl (by omega) hnn_z (hr_z.below hB) rfl (by omega) hnn_d (hr_d.below hB)).mono ?_
    rintro e w8 ⟨A7, c7, B7, d7, rfl, o_z7, o_y7, hb7⟩
    refine ⟨_, rfl, ?_⟩
    have m_z7_y7 := own_ne_type o_z7 o_y7 (by decide)
    have m_y7_z7 := ne_row_symm m_z7_y7
    have d_z7_q2 := own_ne_box o_z7 (lt_of_block h_q2)
    have d_z7_q4 := own_ne_box o_z7 (lt_of_block h_q4)
    have g_z7 : ∀ b, (A7 : Option Addr).map (·.block) = some b → w.heap.size ≤ b := fun b h => Nat.le_trans hB.size (own_row o_z7 b h).1
    replace o_z7 := own_base (base := w.heap.size) o_z7 hB.size
    have d_y7_q2 := own_ne_box o_y7 (lt_of_block h_q2)
    have d_y7_q4 := own_ne_box o_y7 (lt_of_block h_q4)
    have g_y7 : ∀ b, (B7 : Option Addr).map (·.block) = some b → w.heap.size ≤ b := fun b h => Nat.le_trans hB.size (own_row o_y7 b h).1
    replace o_y7 := own_base (base := w.heap.size) o_y7 hB.size
    replace h_q2 := keep_below h_q2 hb7
    replace h_q4 := keep_below h_q4 hb7
    replace hB := hB.trans (hb7.mono hB.size)
    clear hb7
    intro a5 p5
    have s8 : a5.eval (.tmp 8) = .agg #[.int .i64 room, .slice A7 zs.length c7, .slice B7 ds.length d7] := p5.at hs (by decide)
    replace hs := p5.st hs
    refine q_val rfl rfl ?_
    refine g_alloc rfl Try.zeroValue50 rfl ?_
    intro q9 w10 N_q9
    have n_q2_q9 := N_q9.ne ⟨lt_of_block h_q2⟩
    have n_q9_q2 := n_q2_q9.symm
    have n_q4_q9 := N_q9.ne ⟨lt_of_block h_q4⟩
    have n_q9_q4 := n_q4_q9.symm
    have d_z7_q9 := own_ne_new o_z7 N_q9
    have d_y7_q9 := own_ne_new o_y7 N_q9
    have g_q9 : GeB w.heap.size q9 := ⟨Nat.le_trans hB.size N_q9.lo⟩
    replace h_q2 := keep_below h_q2 N_q9.below
    replace h_q4 := keep_below h_q4 N_q9.below
    replace o_z7 := own_below o_z7 N_q9.below
    replace o_y7 := own_below o_y7 N_q9.below
    replace hB := below_new hB hB.size N_q9
    have h_q9 := N_q9.here
    clear N_q9
    intro a6 p6
    have s6 : a6.eval (.tmp 6) = .pointer (some ⟨q9, 0, none⟩) := p6.at hs (by decide)
    replace hs := p6.st hs
    refine q_eff rfl rfl ?_
    refine g_storeB rfl s6 ((p6.ne rfl).trans s8) Try.sizeOf50 rfl rfl h_q9 rfl ?_
    intro w11 W_w11
    replace h_q2 := keep_wrote h_q2 W_w11 n_q9_q2
    replace h_q4 := keep_wrote h_q4 W_w11 n_q9_q4
    replace h_q9 := W_w11.here
    replace o_z7 := own_wrote o_z7 W_w11 d_z7_q9
    replace o_y7 := own_wrote o_y7 W_w11 d_y7_q9
    replace hB := below_wrote hB hB.size W_w11 g_q9.le
    clear W_w11
    refine wpList_nil ?_
    replace s1 : a6.eval (.tmp 1) = .int .i64 k := ((p6.ne rfl).trans ((p5.ne rfl).trans (p4.ne rfl))).trans s1
    replace s2 : a6.eval (.tmp 2) = .pointer (some ⟨q2, 0, none⟩) := ((p6.ne rfl).trans ((p5.ne rfl).trans (p4.ne rfl))).trans s2
    replace s4 : a6.eval (.tmp 4) = .pointer (some ⟨q4, 0, none⟩) := ((p6.ne rfl).trans ((p5.ne rfl).trans (p4.ne rfl))).trans s4
    replace s5 : a6.eval (.tmp 5) = .slice none 0 0 := ((p6.ne rfl).trans ((p5.ne rfl).trans (p4.ne rfl))).trans s5
    refine hK6 _ _ ?_
    clear hK6
    refine wp_seq_k fun K12 hK12 => ?_
    refine wp_seq_k fun K13 hK13 => ?_
    refine wp_region_lit ?_
    refine q_val rfl rfl ?_
    refine g_loadB rfl s2 Try.isAgg50 Try.sizeOf50 rfl h_q2 ?_
    intro a7 p7
    have s9 : a7.eval (.tmp 9) = .agg #[.int .i64 room, .slice A zs.length cp, .slice B ds.length dp] := p7.at hs (by decide)
    replace hs := p7.st hs
    refine q_val rfl rfl ?_
    refine g_call rfl rfl Try.call41 (arr1 s9) ?_
    refine (sRecorderOk_any _ _ _ _ _ _ _ zs ds _ rfl (by omega) hT (hr_z.below hB) rfl (by omega) (hr_d.below hB)).mono ?_
    rintro e w15 ⟨rfl, hb14⟩
    refine ⟨_, rfl, ?_⟩
    replace h_q2 := keep_below h_q2 hb14
    replace h_q4 := keep_below h_q4 hb14
    replace h_q9 := keep_below h_q9 hb14
    replace o_z7 := own_below o_z7 hb14
    replace o_y7 := own_below o_y7 hb14
    replace hB := hB.trans (hb14.mono hB.size)
    clear hb14
    intro a8 p8
    have s10 : a8.eval (.tmp 10) = .bool false := (p8.at hs (by decide)).trans (congrArg Value.bool hok)
    replace hs := p8.st hs
    refine q_val rfl rfl ?_
    refine g_not rfl s10 ?_
    intro a9 p9
    have s11 : a9.eval (.tmp 11) = .bool true := p9.at hs (by decide)
    replace hs := p9.st hs
    refine q_val rfl rfl ?_
    refine g_move rfl s11 ?_
    intro a10 p10
    have s12 : a10.eval (.tmp 12) = .bool true := p10.at hs (by decide)
    replace hs := p10.st hs
    refine q_skip rfl rfl s12 rfl ?_
    intro a11 p11
    have s13 : a11.eval (.tmp 13) = undef := p11.at hs (by decide)
    replace hs := p11.st hs
    refine q_skip rfl rfl ((p11.ne rfl).trans s12) rfl ?_
    intro a12 p12
    have s14 : a12.eval (.tmp 14) = undef := p12.at hs (by decide)
    replace hs := p12.st hs
    refine q_val rfl rfl ?_
    refine g_pick_t rfl (((p12.ne rfl).trans (p11.ne rfl)).trans s12) rfl ?_
    intro a13 p13
    have s15 : a13.eval (.tmp 15) = .bool true := p13.at hs (by decide)
    replace hs := p13.st hs
    refine wpList_nil ?_
    replace s1 : a13.eval (.tmp 1) = .int .i64 k := ((p13.ne rfl).trans ((p12.ne rfl).trans ((p11.ne rfl).trans ((p10.ne rfl).trans ((p9.ne rfl).trans ((p8.ne rfl).trans (p7.ne rfl))))))).trans s1
    replace s2 : a13.eval (.tmp 2) = .pointer (some ⟨q2, 0, none⟩) := ((p13.ne rfl).trans ((p12.ne rfl).trans ((p11.ne rfl).trans ((p10.ne rfl).trans ((p9.ne rfl).trans ((p8.ne rfl).trans (p7.ne rfl))))))).trans s2
    replace s4 : a13.eval (.tmp 4) = .pointer (some ⟨q4, 0, none⟩) := ((p13.ne rfl).trans ((p12.ne rfl).trans ((p11.ne rfl).trans ((p10.ne rfl).trans ((p9.ne rfl).trans ((p8.ne rfl).trans (p7.ne rfl))))))).trans s4
    replace s5 : a13.eval (.tmp 5) = .slice none 0 0 := ((p13.ne rfl).trans ((p12.ne rfl).trans ((p11.ne rfl).trans ((p10.ne rfl).trans ((p9.ne rfl).trans ((p8.ne rfl).trans (p7.ne rfl))))))).trans s5
    replace s6 : a13.eval (.tmp 6) = .pointer (some ⟨q9, 0, none⟩) := ((p13.ne rfl).trans ((p12.ne rfl).trans ((p11.ne rfl).trans ((p10.ne rfl).trans ((p9.ne rfl).trans ((p8.ne rfl).trans (p7.ne rfl))))))).trans s6
    refine hK13 _ _ ?_
    clear hK13
    refine c_true s15 ?_
    refine wp_seq_k fun K16 hK16 => ?_
    refine wp_region_lit ?_
    refine q_val rfl rfl ?_
    refine g_loadB rfl s6 Try.isAgg50 Try.sizeOf50 rfl h_q9 ?_
    intro a14 p14
    have s16 : a14.eval (.tmp 16) = .agg #[.int .i64 room, .slice A7 zs.length c7, .slice B7 ds.length d7] := p14.at hs (by decide)
    replace hs := p14.st hs
    refine q_val rfl rfl ?_
    refine g_bslice0 rfl Try.underlying47 Try.sizeOf26 ?_
    intro q17 w18 N_q17
    have n_q2_q17 := N_q17.ne ⟨lt_of_block h_q2⟩
    have n_q17_q2 := n_q2_q17.symm
    have n_q4_q17 := N_q17.ne ⟨lt_of_block h_q4⟩
    have n_q17_q4 := n_q4_q17.symm
    have n_q9_q17 := N_q17.ne ⟨lt_of_block h_q9⟩
    have n_q17_q9 := n_q9_q17.symm
    have d_z7_q17 := own_ne_new o_z7 N_q17
    have d_y7_q17 := own_ne_new o_y7 N_q17
    have g_q17 : GeB w.heap.size q17 := ⟨Nat.le_trans hB.size N_q17.lo⟩
    replace h_q2 := keep_below h_q2 N_q17.below
    replace h_q4 := keep_below h_q4 N_q17.below
    replace h_q9 := keep_below h_q9 N_q17.below
    replace o_z7 := own_below o_z7 N_q17.below
    replace o_y7 := own_below o_y7 N_q17.below
    replace hB := below_new hB hB.size N_q17
    have h_q17 := N_q17.here
    clear N_q17
    intro a15 p15
    have s17 : a15.eval (.tmp 17) = .slice (some ⟨q17, 0, none⟩) 0 0 := p15.at hs (by decide)
    replace hs := p15.st hs
    refine q_eff rfl rfl ?_
    refine g_storeB rfl (((p15.ne rfl).trans (p14.ne rfl)).trans s4) ((p15.ne rfl).trans s16) Try.sizeOf50 rfl rfl h_q4 rfl ?_
    intro w19 W_w19
    replace h_q2 := keep_wrote h_q2 W_w19 n_q4_q2
    replace h_q4 := W_w19.here
    replace h_q9 := keep_wrote h_q9 W_w19 n_q4_q9
    replace h_q17 := keep_wrote h_q17 W_w19 n_q4_q17
    replace o_z7 := own_wrote o_z7 W_w19 d_z7_q4
    replace o_y7 := own_wrote o_y7 W_w19 d_y7_q4
    replace hB := below_wrote hB hB.size W_w19 g_q4.le
    clear W_w19
    refine q_val rfl rfl ?_
    refine g_assign rfl s17 ?_
    intro a16 p16
    have s5 : a16.eval (.tmp 5) = .slice (some ⟨q17, 0, none⟩) 0 0 := p16.at hs (by decide)
    replace hs := p16.st hs
    refine wpList_nil ?_
    replace s1 : a16.eval (.tmp 1) = .int .i64 k := ((p16.ne rfl).trans ((p15.ne rfl).trans (p14.ne rfl))).trans s1
    replace s2 : a16.eval (.tmp 2) = .pointer (some ⟨q2, 0, none⟩) := ((p16.ne rfl).trans ((p15.ne rfl).trans (p14.ne rfl))).trans s2
    replace s4 : a16.eval (.tmp 4) = .pointer (some ⟨q4, 0, none⟩) := ((p16.ne rfl).trans ((p15.ne rfl).trans (p14.ne rfl))).trans s4
    replace s6 : a16.eval (.tmp 6) = .pointer (some ⟨q9, 0, none⟩) := ((p16.ne rfl).trans ((p15.ne rfl).trans (p14.ne rfl))).trans s6
    refine hK16 _ _ ?_
    clear hK16
    refine wp_ret ?_
    try dsimp only [Exit.then, Exit.inBlock]
    refine ret2 hs Try.results45 (res_cell s4 h_q4 Try.isAgg50 Try.sizeOf50 rfl) (res_tmp s5) ?_
    refine ⟨_, rfl, ?_, hB⟩
    rw [hc.out.1, hc.out.2]
    exact ⟨_, _, _, _, _, _, rfl, o_z7, o_y7, own_box_row (base := w.heap.size) (xs := []) h_q17 g_q17.le rfl (by decide) rfl, row_ne_box d_z7_q17⟩
  by_cases hk : k < 0
  · have hc := Lib.hid (show trL room k zs ds = zs ∧ trG room k zs ds = [] by unfold trL trG trOk; rw [hok, decide_eq_false (by omega : ¬ 0 ≤ k)]; exact ⟨rfl, rfl⟩)
    refine enter 37 Try.func45 rfl rfl (Nat.le_of_ble_eq_true rfl) ?_
    intro a0 hs hargs
    have s0 : a0.eval (.tmp 0) = .agg #[.int .i64 room, .slice A zs.length cp, .slice B ds.length dp] := hargs 0 _ rfl
    have s1 : a0.eval (.tmp 1) = .int .i64 k := hargs 1 _ rfl
    clear hargs
    have hB : Below w.heap.size w w := Below.refl _ _
    refine wp_seq_k fun K1 hK1 => ?_
    refine wp_region_lit ?_
    refine q_val rfl rfl ?_
    refine g_box rfl s0 rfl ?_
    intro q2 w3 N_q2
    have g_q2 : GeB w.heap.size q2 := ⟨Nat.le_trans hB.size N_q2.lo⟩
    replace hB := below_new hB hB.size N_q2
    have h_q2 := N_q2.here
    clear N_q2
    intro a1 p1
    have s2 : a1.eval (.tmp 2) = .pointer (some ⟨q2, 0, none⟩) := p1.at hs (by decide)
    replace hs := p1.st hs
    refine q_val rfl rfl ?_
    refine g_alloc rfl Try.zeroValue50 rfl ?_
    intro q4 w5 N_q4
    have n_q2_q4 := N_q4.ne ⟨lt_of_block h_q2⟩
    have n_q4_q2 := n_q2_q4.symm
    have g_q4 : GeB w.heap.size q4 := ⟨Nat.le_trans hB.size N_q4.lo⟩
    replace h_q2 := keep_below h_q2 N_q4.below
    replace hB := below_new hB hB.size N_q4
    have h_q4 := N_q4.here
    clear N_q4
    intro a2 p2
    have s4 : a2.eval (.tmp 4) = .pointer (some ⟨q4, 0, none⟩) := p2.at hs (by decide)
    replace hs := p2.st hs
    refine q_val rfl rfl ?_
    refine g_assign rfl rfl ?_
    intro a3 p3
    have s5 : a3.eval (.tmp 5) = .slice none 0 0 := p3.at hs (by decide)
    replace hs := p3.st hs
    refine wpList_nil ?_
    replace s1 : a3.eval (.tmp 1) = .int .i64 k := ((p3.ne rfl).trans ((p2.ne rfl).trans (p1.ne rfl))).trans s1
    replace s2 : a3.eval (.tmp 2) = .pointer (some ⟨q2, 0, none⟩) := ((p3.ne rfl).trans (p2.ne rfl)).trans s2
    replace s4 : a3.eval (.tmp 4) = .pointer (some ⟨q4, 0, none⟩) := (p3.ne rfl).trans s4
    refine hK1 _ _ ?_
    clear hK1
    refine wp_seq_k fun K6 hK6 => ?_
    refine wp_region_lit ?_
    refine q_val rfl rfl ?_
    refine g_loadB rfl s2 Try.isAgg50 Try.sizeOf50 rfl h_q2 ?_
    intro a4 p4
    have s7 : a4.eval (.tmp 7) = .agg #[.int .i64 room, .slice A zs.length cp, .slice B ds.length dp] := p4.at hs (by decide)
    replace hs := p4.st hs
    refine q_val rfl rfl ?_
    refine g_call rfl rfl Try.call74 (arr1 s7) ?_
    refine (copyRecorder_any _ _ _ _ _ _ _ zs ds _ rfl (by omega) hnn_z (hr_z.below hB) rfl (by omega) hnn_d (hr_d.below hB)).mono ?_
    rintro e w8 ⟨A7, c7, B7, d7, rfl, o_z7, o_y7, hb7⟩
    refine ⟨_, rfl, ?_⟩
    have m_z7_y7 := own_ne_type o_z7 o_y7 (by decide)
    have m_y7_z7 := ne_row_symm m_z7_y7
    have d_z7_q2 := own_ne_box o_z7 (lt_of_block h_q2)
    have d_z7_q4 := own_ne_box o_z7 (lt_of_block h_q4)
    have g_z7 : ∀ b, (A7 : Option Addr).map (·.block) = some b → w.heap.size ≤ b := fun b h => Nat.le_trans hB.size (own_row o_z7 b h).1
    replace o_z7 := own_base (base := w.heap.size) o_z7 hB.size
    have d_y7_q2 := own_ne_box o_y7 (lt_of_block h_q2)
    have d_y7_q4 := own_ne_box o_y7 (lt_of_block h_q4)
    have g_y7 : ∀ b, (B7 : Option Addr).map (·.block) = some b → w.heap.size ≤ b := fun b h => Nat.le_trans hB.size (own_row o_y7 b h).1
    replace o_y7 := own_base (base := w.heap.size) o_y7 hB.size
    replace h_q2 := keep_below h_q2 hb7
    replace h_q4 := keep_below h_q4 hb7
    replace hB := hB.trans (hb7.mono hB.size)
    clear hb7
    intro a5 p5
    have s8 : a5.eval (.tmp 8) = .agg #[.int .i64 room, .slice A7 zs.length c7, .slice B7 ds.length d7] := p5.at hs (by decide)
    replace hs := p5.st hs
    refine q_val rfl rfl ?_
    refine g_alloc rfl Try.zeroValue50 rfl ?_
    intro q9 w10 N_q9
    have n_q2_q9 := N_q9.ne ⟨lt_of_block h_q2⟩
    have n_q9_q2 := n_q2_q9.symm
    have n_q4_q9 := N_q9.ne ⟨lt_of_block h_q4⟩
    have n_q9_q4 := n_q4_q9.symm
    have d_z7_q9 := own_ne_new o_z7 N_q9
    have d_y7_q9 := own_ne_new o_y7 N_q9
    have g_q9 : GeB w.heap.size q9 := ⟨Nat.le_trans hB.size N_q9.lo⟩
    replace h_q2 := keep_below h_q2 N_q9.below
    replace h_q4 := keep_below h_q4 N_q9.below
    replace o_z7 := own_below o_z7 N_q9.below
    replace o_y7 := own_below o_y7 N_q9.below
    replace hB := below_new hB hB.size N_q9
    have h_q9 := N_q9.here
    clear N_q9
    intro a6 p6
    have s6 : a6.eval (.tmp 6) = .pointer (some ⟨q9, 0, none⟩) := p6.at hs (by decide)
    replace hs := p6.st hs
    refine q_eff rfl rfl ?_
    refine g_storeB rfl s6 ((p6.ne rfl).trans s8) Try.sizeOf50 rfl rfl h_q9 rfl ?_
    intro w11 W_w11
    replace h_q2 := keep_wrote h_q2 W_w11 n_q9_q2
    replace h_q4 := keep_wrote h_q4 W_w11 n_q9_q4
    replace h_q9 := W_w11.here
    replace o_z7 := own_wrote o_z7 W_w11 d_z7_q9
    replace o_y7 := own_wrote o_y7 W_w11 d_y7_q9
    replace hB := below_wrote hB hB.size W_w11 g_q9.le
    clear W_w11
    refine wpList_nil ?_
    replace s1 : a6.eval (.tmp 1) = .int .i64 k := ((p6.ne rfl).trans ((p5.ne rfl).trans (p4.ne rfl))).trans s1
    replace s2 : a6.eval (.tmp 2) = .pointer (some ⟨q2, 0, none⟩) := ((p6.ne rfl).trans ((p5.ne rfl).trans (p4.ne rfl))).trans s2
    replace s4 : a6.eval (.tmp 4) = .pointer (some ⟨q4, 0, none⟩) := ((p6.ne rfl).trans ((p5.ne rfl).trans (p4.ne rfl))).trans s4
    replace s5 : a6.eval (.tmp 5) = .slice none 0 0 := ((p6.ne rfl).trans ((p5.ne rfl).trans (p4.ne rfl))).trans s5
    refine hK6 _ _ ?_
    clear hK6
    refine wp_seq_k fun K12 hK12 => ?_
    refine wp_seq_k fun K13 hK13 => ?_
    refine wp_region_lit ?_
    refine q_val rfl rfl ?_
    refine g_loadB rfl s2 Try.isAgg50 Try.sizeOf50 rfl h_q2 ?_
    intro a7 p7
    have s9 : a7.eval (.tmp 9) = .agg #[.int .i64 room, .slice A zs.length cp, .slice B ds.length dp] := p7.at hs (by decide)
    replace hs := p7.st hs
    refine q_val rfl rfl ?_
    refine g_call rfl rfl Try.call41 (arr1 s9) ?_
    refine (sRecorderOk_any _ _ _ _ _ _ _ zs ds _ rfl (by omega) hT (hr_z.below hB) rfl (by omega) (hr_d.below hB)).mono ?_
    rintro e w15 ⟨rfl, hb14⟩
    refine ⟨_, rfl, ?_⟩
    replace h_q2 := keep_below h_q2 hb14
    replace h_q4 := keep_below h_q4 hb14
    replace h_q9 := keep_below h_q9 hb14
    replace o_z7 := own_below o_z7 hb14
    replace o_y7 := own_below o_y7 hb14
    replace hB := hB.trans (hb14.mono hB.size)
    clear hb14
    intro a8 p8
    have s10 : a8.eval (.tmp 10) = .bool true := (p8.at hs (by decide)).trans (congrArg Value.bool hok)
    replace hs := p8.st hs
    refine q_val rfl rfl ?_
    refine g_not rfl s10 ?_
    intro a9 p9
    have s11 : a9.eval (.tmp 11) = .bool false := p9.at hs (by decide)
    replace hs := p9.st hs
    refine q_val rfl rfl ?_
    refine g_move rfl s11 ?_
    intro a10 p10
    have s12 : a10.eval (.tmp 12) = .bool false := p10.at hs (by decide)
    replace hs := p10.st hs
    refine q_take rfl rfl s12 rfl ?_
    refine g_move rfl (((p10.ne rfl).trans ((p9.ne rfl).trans ((p8.ne rfl).trans (p7.ne rfl)))).trans s1) ?_
    intro a11 p11
    have s13 : a11.eval (.tmp 13) = .int .i64 k := p11.at hs (by decide)
    replace hs := p11.st hs
    refine q_take rfl rfl ((p11.ne rfl).trans s12) rfl ?_
    refine g_lss rfl s13 rfl ?_
    intro a12 p12
    have s14 : a12.eval (.tmp 14) = .bool true := (p12.at hs (by decide)).trans (congrArg Value.bool (decide_eq_true hk))
    replace hs := p12.st hs
    refine q_val rfl rfl ?_
    refine g_pick_f rfl (((p12.ne rfl).trans (p11.ne rfl)).trans s12) s14 ?_
    intro a13 p13
    have s15 : a13.eval (.tmp 15) = .bool true := p13.at hs (by decide)
    replace hs := p13.st hs
    refine wpList_nil ?_
    replace s1 : a13.eval (.tmp 1) = .int .i64 k := ((p13.ne rfl).trans ((p12.ne rfl).trans ((p11.ne rfl).trans ((p10.ne rfl).trans ((p9.ne rfl).trans ((p8.ne rfl).trans (p7.ne rfl))))))).trans s1
    replace s2 : a13.eval (.tmp 2) = .pointer (some ⟨q2, 0, none⟩) := ((p13.ne rfl).trans ((p12.ne rfl).trans ((p11.ne rfl).trans ((p10.ne rfl).trans ((p9.ne rfl).trans ((p8.ne rfl).trans (p7.ne rfl))))))).trans s2
    replace s4 : a13.eval (.tmp 4) = .pointer (some ⟨q4, 0, none⟩) := ((p13.ne rfl).trans ((p12.ne rfl).trans ((p11.ne rfl).trans ((p10.ne rfl).trans ((p9.ne rfl).trans ((p8.ne rfl).trans (p7.ne rfl))))))).trans s4
    replace s5 : a13.eval (.tmp 5) = .slice none 0 0 := ((p13.ne rfl).trans ((p12.ne rfl).trans ((p11.ne rfl).trans ((p10.ne rfl).trans ((p9.ne rfl).trans ((p8.ne rfl).trans (p7.ne rfl))))))).trans s5
    replace s6 : a13.eval (.tmp 6) = .pointer (some ⟨q9, 0, none⟩) := ((p13.ne rfl).trans ((p12.ne rfl).trans ((p11.ne rfl).trans ((p10.ne rfl).trans ((p9.ne rfl).trans ((p8.ne rfl).trans (p7.ne rfl))))))).trans s6
    refine hK13 _ _ ?_
    clear hK13
    refine c_true s15 ?_
    refine wp_seq_k fun K16 hK16 => ?_
    refine wp_region_lit ?_
    refine q_val rfl rfl ?_
    refine g_loadB rfl s6 Try.isAgg50 Try.sizeOf50 rfl h_q9 ?_
    intro a14 p14
    have s16 : a14.eval (.tmp 16) = .agg #[.int .i64 room, .slice A7 zs.length c7, .slice B7 ds.length d7] := p14.at hs (by decide)
    replace hs := p14.st hs
    refine q_val rfl rfl ?_
    refine g_bslice0 rfl Try.underlying47 Try.sizeOf26 ?_
    intro q17 w18 N_q17
    have n_q2_q17 := N_q17.ne ⟨lt_of_block h_q2⟩
    have n_q17_q2 := n_q2_q17.symm
    have n_q4_q17 := N_q17.ne ⟨lt_of_block h_q4⟩
    have n_q17_q4 := n_q4_q17.symm
    have n_q9_q17 := N_q17.ne ⟨lt_of_block h_q9⟩
    have n_q17_q9 := n_q9_q17.symm
    have d_z7_q17 := own_ne_new o_z7 N_q17
    have d_y7_q17 := own_ne_new o_y7 N_q17
    have g_q17 : GeB w.heap.size q17 := ⟨Nat.le_trans hB.size N_q17.lo⟩
    replace h_q2 := keep_below h_q2 N_q17.below
    replace h_q4 := keep_below h_q4 N_q17.below
    replace h_q9 := keep_below h_q9 N_q17.below
    replace o_z7 := own_below o_z7 N_q17.below
    replace o_y7 := own_below o_y7 N_q17.below
    replace hB := below_new hB hB.size N_q17
    have h_q17 := N_q17.here
    clear N_q17
    intro a15 p15
    have s17 : a15.eval (.tmp 17) = .slice (some ⟨q17, 0, none⟩) 0 0 := p15.at hs (by decide)
    replace hs := p15.st hs
    refine q_eff rfl rfl ?_
    refine g_storeB rfl (((p15.ne rfl).trans (p14.ne rfl)).trans s4) ((p15.ne rfl).trans s16) Try.sizeOf50 rfl rfl h_q4 rfl ?_
    intro w19 W_w19
    replace h_q2 := keep_wrote h_q2 W_w19 n_q4_q2
    replace h_q4 := W_w19.here
    replace h_q9 := keep_wrote h_q9 W_w19 n_q4_q9
    replace h_q17 := keep_wrote h_q17 W_w19 n_q4_q17
    replace o_z7 := own_wrote o_z7 W_w19 d_z7_q4
    replace o_y7 := own_wrote o_y7 W_w19 d_y7_q4
    replace hB := below_wrote hB hB.size W_w19 g_q4.le
    clear W_w19
    refine q_val rfl rfl ?_
    refine g_assign rfl s17 ?_
    intro a16 p16
    have s5 : a16.eval (.tmp 5) = .slice (some ⟨q17, 0, none⟩) 0 0 := p16.at hs (by decide)
    replace hs := p16.st hs
    refine wpList_nil ?_
    replace s1 : a16.eval (.tmp 1) = .int .i64 k := ((p16.ne rfl).trans ((p15.ne rfl).trans (p14.ne rfl))).trans s1
    replace s2 : a16.eval (.tmp 2) = .pointer (some ⟨q2, 0, none⟩) := ((p16.ne rfl).trans ((p15.ne rfl).trans (p14.ne rfl))).trans s2
    replace s4 : a16.eval (.tmp 4) = .pointer (some ⟨q4, 0, none⟩) := ((p16.ne rfl).trans ((p15.ne rfl).trans (p14.ne rfl))).trans s4
    replace s6 : a16.eval (.tmp 6) = .pointer (some ⟨q9, 0, none⟩) := ((p16.ne rfl).trans ((p15.ne rfl).trans (p14.ne rfl))).trans s6
    refine hK16 _ _ ?_
    clear hK16
    refine wp_ret ?_
    try dsimp only [Exit.then, Exit.inBlock]
    refine ret2 hs Try.results45 (res_cell s4 h_q4 Try.isAgg50 Try.sizeOf50 rfl) (res_tmp s5) ?_
    refine ⟨_, rfl, ?_, hB⟩
    rw [hc.out.1, hc.out.2]
    exact ⟨_, _, _, _, _, _, rfl, o_z7, o_y7, own_box_row (base := w.heap.size) (xs := []) h_q17 g_q17.le rfl (by decide) rfl, row_ne_box d_z7_q17⟩
  by_cases hkl : k ≤ (zs.length : Int)
  · obtain ⟨kk, rfl⟩ := Int.eq_ofNat_of_zero_le (show 0 ≤ k by omega)
    have hkn : kk ≤ zs.length := by omega
    have hc := Lib.hid (show trL room kk zs ds = zs.drop kk ∧ trG room kk zs ds = zs.take kk by unfold trL trG trOk; rw [hok, decide_eq_true (by omega : 0 ≤ (kk : Int)), show trN kk zs = kk from by unfold trN; omega]; exact ⟨rfl, rfl⟩)
    refine enter 37 Try.func45 rfl rfl (Nat.le_of_ble_eq_true rfl) ?_
    intro a0 hs hargs
    have s0 : a0.eval (.tmp 0) = .agg #[.int .i64 room, .slice A zs.length cp, .slice B ds.length dp] := hargs 0 _ rfl
    have s1 : a0.eval (.tmp 1) = .int .i64 ((kk : Nat) : Int) := hargs 1 _ rfl
    clear hargs
    have hB : Below w.heap.size w w := Below.refl _ _
    refine wp_seq_k fun K1 hK1 => ?_
    refine wp_region_lit ?_
    refine q_val rfl rfl ?_
    refine g_box rfl s0 rfl ?_
    intro q2 w3 N_q2
    have g_q2 : GeB w.heap.size q2 := ⟨Nat.le_trans hB.size N_q2.lo⟩
    replace hB := below_new hB hB.size N_q2
    have h_q2 := N_q2.here
    clear N_q2
    intro a1 p1
    have s2 : a1.eval (.tmp 2) = .pointer (some ⟨q2, 0, none⟩) := p1.at hs (by decide)
    replace hs := p1.st hs
    refine q_val rfl rfl ?_
    refine g_alloc rfl Try.zeroValue50 rfl ?_
    intro q4 w5 N_q4
    have n_q2_q4 := N_q4.ne ⟨lt_of_block h_q2⟩
    have n_q4_q2 := n_q2_q4.symm
    have g_q4 : GeB w.heap.size q4 := ⟨Nat.le_trans hB.size N_q4.lo⟩
    replace h_q2 := keep_below h_q2 N_q4.below
    replace hB := below_new hB hB.size N_q4
    have h_q4 := N_q4.here
    clear N_q4
    intro a2 p2
    have s4 : a2.eval (.tmp 4) = .pointer (some ⟨q4, 0, none⟩) := p2.at hs (by decide)
    replace hs := p2.st hs
    refine q_val rfl rfl ?_
    refine g_assign rfl rfl ?_
    intro a3 p3
    have s5 : a3.eval (.tmp 5) = .slice none 0 0 := p3.at hs (by decide)
    replace hs := p3.st hs
    refine wpList_nil ?_
    replace s1 : a3.eval (.tmp 1) = .int .i64 ((kk : Nat) : Int) := ((p3.ne rfl).trans ((p2.ne rfl).trans (p1.ne rfl))).trans s1
    replace s2 : a3.eval (.tmp 2) = .pointer (some ⟨q2, 0, none⟩) := ((p3.ne rfl).trans (p2.ne rfl)).trans s2
    replace s4 : a3.eval (.tmp 4) = .pointer (some ⟨q4, 0, none⟩) := (p3.ne rfl).trans s4
    refine hK1 _ _ ?_
    clear hK1
    refine wp_seq_k fun K6 hK6 => ?_
    refine wp_region_lit ?_
    refine q_val rfl rfl ?_
    refine g_loadB rfl s2 Try.isAgg50 Try.sizeOf50 rfl h_q2 ?_
    intro a4 p4
    have s7 : a4.eval (.tmp 7) = .agg #[.int .i64 room, .slice A zs.length cp, .slice B ds.length dp] := p4.at hs (by decide)
    replace hs := p4.st hs
    refine q_val rfl rfl ?_
    refine g_call rfl rfl Try.call74 (arr1 s7) ?_
    refine (copyRecorder_any _ _ _ _ _ _ _ zs ds _ rfl (by omega) hnn_z (hr_z.below hB) rfl (by omega) hnn_d (hr_d.below hB)).mono ?_
    rintro e w8 ⟨A7, c7, B7, d7, rfl, o_z7, o_y7, hb7⟩
    refine ⟨_, rfl, ?_⟩
    have m_z7_y7 := own_ne_type o_z7 o_y7 (by decide)
    have m_y7_z7 := ne_row_symm m_z7_y7
    have d_z7_q2 := own_ne_box o_z7 (lt_of_block h_q2)
    have d_z7_q4 := own_ne_box o_z7 (lt_of_block h_q4)
    have g_z7 : ∀ b, (A7 : Option Addr).map (·.block) = some b → w.heap.size ≤ b := fun b h => Nat.le_trans hB.size (own_row o_z7 b h).1
    replace o_z7 := own_base (base := w.heap.size) o_z7 hB.size
    have d_y7_q2 := own_ne_box o_y7 (lt_of_block h_q2)
    have d_y7_q4 := own_ne_box o_y7 (lt_of_block h_q4)
    have g_y7 : ∀ b, (B7 : Option Addr).map (·.block) = some b → w.heap.size ≤ b := fun b h => Nat.le_trans hB.size (own_row o_y7 b h).1
    replace o_y7 := own_base (base := w.heap.size) o_y7 hB.size
    replace h_q2 := keep_below h_q2 hb7
    replace h_q4 := keep_below h_q4 hb7
    replace hB := hB.trans (hb7.mono hB.size)
    clear hb7
    intro a5 p5
    have s8 : a5.eval (.tmp 8) = .agg #[.int .i64 room, .slice A7 zs.length c7, .slice B7 ds.length d7] := p5.at hs (by decide)
    replace hs := p5.st hs
    refine q_val rfl rfl ?_
    refine g_alloc rfl Try.zeroValue50 rfl ?_
    intro q9 w10 N_q9
    have n_q2_q9 := N_q9.ne ⟨lt_of_block h_q2⟩
    have n_q9_q2 := n_q2_q9.symm
    have n_q4_q9 := N_q9.ne ⟨lt_of_block h_q4⟩
    have n_q9_q4 := n_q4_q9.symm
    have d_z7_q9 := own_ne_new o_z7 N_q9
    have d_y7_q9 := own_ne_new o_y7 N_q9
    have g_q9 : GeB w.heap.size q9 := ⟨Nat.le_trans hB.size N_q9.lo⟩
    replace h_q2 := keep_below h_q2 N_q9.below
    replace h_q4 := keep_below h_q4 N_q9.below
    replace o_z7 := own_below o_z7 N_q9.below
    replace o_y7 := own_below o_y7 N_q9.below
    replace hB := below_new hB hB.size N_q9
    have h_q9 := N_q9.here
    clear N_q9
    intro a6 p6
    have s6 : a6.eval (.tmp 6) = .pointer (some ⟨q9, 0, none⟩) := p6.at hs (by decide)
    replace hs := p6.st hs
    refine q_eff rfl rfl ?_
    refine g_storeB rfl s6 ((p6.ne rfl).trans s8) Try.sizeOf50 rfl rfl h_q9 rfl ?_
    intro w11 W_w11
    replace h_q2 := keep_wrote h_q2 W_w11 n_q9_q2
    replace h_q4 := keep_wrote h_q4 W_w11 n_q9_q4
    replace h_q9 := W_w11.here
    replace o_z7 := own_wrote o_z7 W_w11 d_z7_q9
    replace o_y7 := own_wrote o_y7 W_w11 d_y7_q9
    replace hB := below_wrote hB hB.size W_w11 g_q9.le
    clear W_w11
    refine wpList_nil ?_
    replace s1 : a6.eval (.tmp 1) = .int .i64 ((kk : Nat) : Int) := ((p6.ne rfl).trans ((p5.ne rfl).trans (p4.ne rfl))).trans s1
    replace s2 : a6.eval (.tmp 2) = .pointer (some ⟨q2, 0, none⟩) := ((p6.ne rfl).trans ((p5.ne rfl).trans (p4.ne rfl))).trans s2
    replace s4 : a6.eval (.tmp 4) = .pointer (some ⟨q4, 0, none⟩) := ((p6.ne rfl).trans ((p5.ne rfl).trans (p4.ne rfl))).trans s4
    replace s5 : a6.eval (.tmp 5) = .slice none 0 0 := ((p6.ne rfl).trans ((p5.ne rfl).trans (p4.ne rfl))).trans s5
    refine hK6 _ _ ?_
    clear hK6
    refine wp_seq_k fun K12 hK12 => ?_
    refine wp_seq_k fun K13 hK13 => ?_
    refine wp_region_lit ?_
    refine q_val rfl rfl ?_
    refine g_loadB rfl s2 Try.isAgg50 Try.sizeOf50 rfl h_q2 ?_
    intro a7 p7
    have s9 : a7.eval (.tmp 9) = .agg #[.int .i64 room, .slice A zs.length cp, .slice B ds.length dp] := p7.at hs (by decide)
    replace hs := p7.st hs
    refine q_val rfl rfl ?_
    refine g_call rfl rfl Try.call41 (arr1 s9) ?_
    refine (sRecorderOk_any _ _ _ _ _ _ _ zs ds _ rfl (by omega) hT (hr_z.below hB) rfl (by omega) (hr_d.below hB)).mono ?_
    rintro e w15 ⟨rfl, hb14⟩
    refine ⟨_, rfl, ?_⟩
    replace h_q2 := keep_below h_q2 hb14
    replace h_q4 := keep_below h_q4 hb14
    replace h_q9 := keep_below h_q9 hb14
    replace o_z7 := own_below o_z7 hb14
    replace o_y7 := own_below o_y7 hb14
    replace hB := hB.trans (hb14.mono hB.size)
    clear hb14
    intro a8 p8
    have s10 : a8.eval (.tmp 10) = .bool true := (p8.at hs (by decide)).trans (congrArg Value.bool hok)
    replace hs := p8.st hs
    refine q_val rfl rfl ?_
    refine g_not rfl s10 ?_
    intro a9 p9
    have s11 : a9.eval (.tmp 11) = .bool false := p9.at hs (by decide)
    replace hs := p9.st hs
    refine q_val rfl rfl ?_
    refine g_move rfl s11 ?_
    intro a10 p10
    have s12 : a10.eval (.tmp 12) = .bool false := p10.at hs (by decide)
    replace hs := p10.st hs
    refine q_take rfl rfl s12 rfl ?_
    refine g_move rfl (((p10.ne rfl).trans ((p9.ne rfl).trans ((p8.ne rfl).trans (p7.ne rfl)))).trans s1) ?_
    intro a11 p11
    have s13 : a11.eval (.tmp 13) = .int .i64 ((kk : Nat) : Int) := p11.at hs (by decide)
    replace hs := p11.st hs
    refine q_take rfl rfl ((p11.ne rfl).trans s12) rfl ?_
    refine g_lss rfl s13 rfl ?_
    intro a12 p12
    have s14 : a12.eval (.tmp 14) = .bool false := (p12.at hs (by decide)).trans (congrArg Value.bool (decide_eq_false (by omega)))
    replace hs := p12.st hs
    refine q_val rfl rfl ?_
    refine g_pick_f rfl (((p12.ne rfl).trans (p11.ne rfl)).trans s12) s14 ?_
    intro a13 p13
    have s15 : a13.eval (.tmp 15) = .bool false := p13.at hs (by decide)
    replace hs := p13.st hs
    refine wpList_nil ?_
    replace s1 : a13.eval (.tmp 1) = .int .i64 ((kk : Nat) : Int) := ((p13.ne rfl).trans ((p12.ne rfl).trans ((p11.ne rfl).trans ((p10.ne rfl).trans ((p9.ne rfl).trans ((p8.ne rfl).trans (p7.ne rfl))))))).trans s1
    replace s2 : a13.eval (.tmp 2) = .pointer (some ⟨q2, 0, none⟩) := ((p13.ne rfl).trans ((p12.ne rfl).trans ((p11.ne rfl).trans ((p10.ne rfl).trans ((p9.ne rfl).trans ((p8.ne rfl).trans (p7.ne rfl))))))).trans s2
    replace s4 : a13.eval (.tmp 4) = .pointer (some ⟨q4, 0, none⟩) := ((p13.ne rfl).trans ((p12.ne rfl).trans ((p11.ne rfl).trans ((p10.ne rfl).trans ((p9.ne rfl).trans ((p8.ne rfl).trans (p7.ne rfl))))))).trans s4
    replace s5 : a13.eval (.tmp 5) = .slice none 0 0 := ((p13.ne rfl).trans ((p12.ne rfl).trans ((p11.ne rfl).trans ((p10.ne rfl).trans ((p9.ne rfl).trans ((p8.ne rfl).trans (p7.ne rfl))))))).trans s5
    replace s6 : a13.eval (.tmp 6) = .pointer (some ⟨q9, 0, none⟩) := ((p13.ne rfl).trans ((p12.ne rfl).trans ((p11.ne rfl).trans ((p10.ne rfl).trans ((p9.ne rfl).trans ((p8.ne rfl).trans (p7.ne rfl))))))).trans s6
    refine hK13 _ _ ?_
    clear hK13
    refine c_false s15 ?_
    refine wp_skip ?_
    refine hK12 _ _ ?_
    clear hK12
    refine wp_seq_k fun K16 hK16 => ?_
    refine wp_region_lit ?_
    refine q_val rfl rfl ?_
    refine g_move rfl s1 ?_
    intro a14 p14
    have s18 : a14.eval (.tmp 18) = .int .i64 ((kk : Nat) : Int) := p14.at hs (by decide)
    replace hs := p14.st hs
    refine q_val rfl rfl ?_
    refine g_field (r := 1) rfl ((p14.ne rfl).trans s2) Try.underlying50 rfl (fun w => Try.sizeOf47 w) rfl rfl ?_
    intro a15 p15
    have s19 : a15.eval (.tmp 19) = .pointer (some ⟨q2, 1, none⟩) := p15.at hs (by decide)
    replace hs := p15.st hs
    refine q_val rfl rfl ?_
    refine g_load rfl s19 Try.isAgg47 (box_cell h_q2 rfl) ?_
    intro a16 p16
    have s20 : a16.eval (.tmp 20) = .slice A zs.length cp := p16.at hs (by decide)
    replace hs := p16.st hs
    refine q_val rfl rfl ?_
    refine g_len (e := _) rfl Try.underlying47 s20 ?_
    intro a17 p17
    have s21 : a17.eval (.tmp 21) = .int .i64 ((zs.length : Nat) : Int) := p17.at hs (by decide)
    replace hs := p17.st hs
    refine q_val rfl rfl ?_
    refine g_min (r := ((kk : Nat) : Int)) rfl (((p17.ne rfl).trans ((p16.ne rfl).trans (p15.ne rfl))).trans s18) s21 (by split <;> omega) ?_
    intro a18 p18
    have s22 : a18.eval (.tmp 22) = .int .i64 ((kk : Nat) : Int) := p18.at hs (by decide)
    replace hs := p18.st hs
    refine q_val rfl rfl ?_
    refine g_assign rfl s22 ?_
    intro a19 p19
    have s1 : a19.eval (.tmp 1) = .int .i64 ((kk : Nat) : Int) := p19.at hs (by decide)
    replace hs := p19.st hs
    refine wpList_nil ?_
    replace s2 : a19.eval (.tmp 2) = .pointer (some ⟨q2, 0, none⟩) := ((p19.ne rfl).trans ((p18.ne rfl).trans ((p17.ne rfl).trans ((p16.ne rfl).trans ((p15.ne rfl).trans (p14.ne rfl)))))).trans s2
    replace s4 : a19.eval (.tmp 4) = .pointer (some ⟨q4, 0, none⟩) := ((p19.ne rfl).trans ((p18.ne rfl).trans ((p17.ne rfl).trans ((p16.ne rfl).trans ((p15.ne rfl).trans (p14.ne rfl)))))).trans s4
    replace s5 : a19.eval (.tmp 5) = .slice none 0 0 := ((p19.ne rfl).trans ((p18.ne rfl).trans ((p17.ne rfl).trans ((p16.ne rfl).trans ((p15.ne rfl).trans (p14.ne rfl)))))).trans s5
    replace s6 : a19.eval (.tmp 6) = .pointer (some ⟨q9, 0, none⟩) := ((p19.ne rfl).trans ((p18.ne rfl).trans ((p17.ne rfl).trans ((p16.ne rfl).trans ((p15.ne rfl).trans (p14.ne rfl)))))).trans s6
    refine hK16 _ _ ?_
    clear hK16
    refine wp_seq_k fun K17 hK17 => ?_
    refine wp_region_lit ?_
    refine q_val rfl rfl ?_
    refine g_bslice0 rfl Try.underlying47 Try.sizeOf26 ?_
    intro q18 w19 N_q18
    have n_q2_q18 := N_q18.ne ⟨lt_of_block h_q2⟩
    have n_q18_q2 := n_q2_q18.symm
    have n_q4_q18 := N_q18.ne ⟨lt_of_block h_q4⟩
    have n_q18_q4 := n_q4_q18.symm
    have n_q9_q18 := N_q18.ne ⟨lt_of_block h_q9⟩
    have n_q18_q9 := n_q9_q18.symm
    have d_z7_q18 := own_ne_new o_z7 N_q18
    have d_y7_q18 := own_ne_new o_y7 N_q18
    have g_q18 : GeB w.heap.size q18 := ⟨Nat.le_trans hB.size N_q18.lo⟩
    replace h_q2 := keep_below h_q2 N_q18.below
    replace h_q4 := keep_below h_q4 N_q18.below
    replace h_q9 := keep_below h_q9 N_q18.below
    replace o_z7 := own_below o_z7 N_q18.below
    replace o_y7 := own_below o_y7 N_q18.below
    replace hB := below_new hB hB.size N_q18
    have h_q18 := N_q18.here
    clear N_q18
    intro a20 p20
    have s23 : a20.eval (.tmp 23) = .slice (some ⟨q18, 0, none⟩) 0 0 := p20.at hs (by decide)
    replace hs := p20.st hs
    refine q_val rfl rfl ?_
    refine g_field (r := 1) rfl ((p20.ne rfl).trans s2) Try.underlying50 rfl (fun w => Try.sizeOf47 w) rfl rfl ?_
    intro a21 p21
    have s24 : a21.eval (.tmp 24) = .pointer (some ⟨q2, 1, none⟩) := p21.at hs (by decide)
    replace hs := p21.st hs
    refine q_val rfl rfl ?_
    refine g_load rfl s24 Try.isAgg47 (box_cell h_q2 rfl) ?_
    intro a22 p22
    have s25 : a22.eval (.tmp 25) = .slice A zs.length cp := p22.at hs (by decide)
    replace hs := p22.st hs
    refine q_val rfl rfl ?_
    refine g_move rfl (((p22.ne rfl).trans ((p21.ne rfl).trans (p20.ne rfl))).trans s1) ?_
    intro a23 p23
    have s26 : a23.eval (.tmp 26) = .int .i64 ((kk : Nat) : Int) := p23.at hs (by decide)
    replace hs := p23.st hs
    obtain ⟨A20, hA_v21⟩ : ∃ x_, x_ = tailA 4 A cp kk := ⟨_, rfl⟩
    have T_v21 : Tail 4 A A20 zs.length cp kk := hA_v21 ▸ tailA_of 4 A zs.length cp kk hnc_z
    refine q_val rfl rfl ?_
    refine g_tailD rfl ((p23.ne rfl).trans s25) s26 Try.underlying47 (fun w => Try.sizeOf26 w) (by omega) rfl rfl hA_v21 ?_
    intro a24 p24
    have s27 : a24.eval (.tmp 27) = .slice A20 (zs.length - kk) (cp - kk) := p24.at hs (by decide)
    replace hs := p24.st hs
    refine q_val rfl rfl ?_
    refine g_append (n' := zs.length - kk) (ys := (zs.drop kk).flatMap cRecord) w.heap.size (.agg #[.int .i64 0, .int .i64 0, .int .i64 0, .string ⟨#[]⟩]) 4 40 rfl (((p24.ne rfl).trans ((p23.ne rfl).trans ((p22.ne rfl).trans (p21.ne rfl)))).trans s23) s27 Try.underlying47 infoRecord rfl (by decide) (own_box_row (base := w.heap.size) (xs := ([]).flatMap cRecord) h_q18 g_q18.le rfl (by decide) rfl) (fun h => by have hz := hnn_z (T_v21.nil h); omega) (T_v21.rd cRecord_len rfl (by omega) (hr_z.below hB)) (flatRecord_one _) (by omega) hB.size (by decide) (by omega) (by first | rfl | simp [List.flatMap_append] | (simp [List.flatMap_append, cRecord]; done)) ?_
    intro A_r22 c_r22 w23 P_r22
    have d_r22_q2 := P_r22.ne (neb_map n_q18_q2) (lt_of_block h_q2)
    have d_r22_q4 := P_r22.ne (neb_map n_q18_q4) (lt_of_block h_q4)
    have d_r22_q9 := P_r22.ne (neb_map n_q18_q9) (lt_of_block h_q9)
    have m_z7_r22 := P_r22.row (row_ne_box d_z7_q18) o_z7
    have m_r22_z7 := ne_row_symm m_z7_r22
    have m_y7_r22 := P_r22.row (row_ne_box d_y7_q18) o_y7
    have m_r22_y7 := ne_row_symm m_y7_r22
    have g_r22 := P_r22.ge (ge_box g_q18.le) hB.size
    replace h_q2 := keep_grown h_q2 P_r22.grown (neb_map n_q18_q2)
    replace h_q4 := keep_grown h_q4 P_r22.grown (neb_map n_q18_q4)
    replace h_q9 := keep_grown h_q9 P_r22.grown (neb_map n_q18_q9)
    replace o_z7 := own_grown o_z7 P_r22.grown (row_ne_box d_z7_q18)
    replace o_y7 := own_grown o_y7 P_r22.grown (row_ne_box d_y7_q18)
    replace hB := below_grown hB hB.size P_r22.grown (ge_box g_q18.le)
    have o_r22 := P_r22.own
    clear P_r22
    intro a25 p25
    have s28 : a25.eval (.tmp 28) = .slice A_r22 (zs.length - kk) c_r22 := p25.at hs (by decide)
    replace hs := p25.st hs
    refine q_val rfl rfl ?_
    refine g_field (r := 1) rfl (((p25.ne rfl).trans ((p24.ne rfl).trans ((p23.ne rfl).trans ((p22.ne rfl).trans ((p21.ne rfl).trans (p20.ne rfl)))))).trans s6) Try.underlying50 rfl (fun w => Try.sizeOf47 w) rfl rfl ?_
    intro a26 p26
    have s29 : a26.eval (.tmp 29) = .pointer (some ⟨q9, 1, none⟩) := p26.at hs (by decide)
    replace hs := p26.st hs
    refine q_eff rfl rfl ?_
    refine g_store (cs' := #[.int .i64 room, .slice A_r22 (zs.length - kk) c_r22, .slice B7 ds.length d7]) rfl s29 ((p26.ne rfl).trans s28) Try.sizeOf47 rfl h_q9 (Nat.le_of_ble_eq_true rfl) rfl ?_
    intro w24 W_w24
    replace h_q2 := keep_wrote h_q2 W_w24 n_q9_q2
    replace h_q4 := keep_wrote h_q4 W_w24 n_q9_q4
    replace h_q9 := W_w24.here
    replace o_z7 := own_wrote o_z7 W_w24 d_z7_q9
    replace o_y7 := own_wrote o_y7 W_w24 d_y7_q9
    replace o_r22 := own_wrote o_r22 W_w24 d_r22_q9
    replace hB := below_wrote hB hB.size W_w24 g_q9.le
    clear W_w24
    refine wpList_nil ?_
    replace s1 : a26.eval (.tmp 1) = .int .i64 ((kk : Nat) : Int) := ((p26.ne rfl).trans ((p25.ne rfl).trans ((p24.ne rfl).trans ((p23.ne rfl).trans ((p22.ne rfl).trans ((p21.ne rfl).trans (p20.ne rfl))))))).trans s1
    replace s2 : a26.eval (.tmp 2) = .pointer (some ⟨q2, 0, none⟩) := ((p26.ne rfl).trans ((p25.ne rfl).trans ((p24.ne rfl).trans ((p23.ne rfl).trans ((p22.ne rfl).trans ((p21.ne rfl).trans (p20.ne rfl))))))).trans s2
    replace s4 : a26.eval (.tmp 4) = .pointer (some ⟨q4, 0, none⟩) := ((p26.ne rfl).trans ((p25.ne rfl).trans ((p24.ne rfl).trans ((p23.ne rfl).trans ((p22.ne rfl).trans ((p21.ne rfl).trans (p20.ne rfl))))))).trans s4
    replace s5 : a26.eval (.tmp 5) = .slice none 0 0 := ((p26.ne rfl).trans ((p25.ne rfl).trans ((p24.ne rfl).trans ((p23.ne rfl).trans ((p22.ne rfl).trans ((p21.ne rfl).trans (p20.ne rfl))))))).trans s5
    replace s6 : a26.eval (.tmp 6) = .pointer (some ⟨q9, 0, none⟩) := ((p26.ne rfl).trans ((p25.ne rfl).trans ((p24.ne rfl).trans ((p23.ne rfl).trans ((p22.ne rfl).trans ((p21.ne rfl).trans (p20.ne rfl))))))).trans s6
    refine hK17 _ _ ?_
    clear hK17
    refine wp_seq_k fun K25 hK25 => ?_
    refine wp_drawn (n := 37) [8] [7] [(8, 6)] (fun k_ v_ wx => match k_ with | 0 => v_ = .agg #[.int .i64 room, .slice A_r22 (zs.length - kk) c_r22, .slice B7 ds.length d7] | 1 => ∃ q26, v_ = .slice (some ⟨q26, 0, none⟩) 0 0 ∧ w24.heap.size ≤ q26 ∧ wx.heap[q26]? = some (.cells #[] 26 (0, 0)) | 2 => v_ = .pointer (some ⟨q2, 1, none⟩) | 3 => v_ = .slice A zs.length cp | 4 => v_ = .int .i64 ((kk : Nat) : Int) | 5 => v_ = .slice A kk cp | 6 => ∃ (A_r28 : Option Addr) (c_r28 : Nat), v_ = .slice A_r28 kk c_r28 ∧ ((wx).ownsRow w24.heap.size 26 4 (.slice A_r28 kk c_r28) kk ((zs.take kk).flatMap cRecord)) | _ => True) (by kernel_rfl) (by kernel_rfl) (by kernel_rfl) (by kernel_rfl) hs.size ?_ ?_ ?_
    · intro i v wa wb hb hr
      rcases i with _ | _ | _ | _ | _ | _ | _ | _ | _ | i
      · exact hr
      · obtain ⟨q26, hr, hg, hh⟩ := hr; exact ⟨q26, hr, hg, keep_below hh hb⟩
      · exact hr
      · exact hr
      · exact hr
      · exact hr
      · obtain ⟨A_r28, c_r28, hr, o_r28⟩ := hr; exact ⟨A_r28, c_r28, hr, own_below o_r28 hb⟩
      · trivial
      · trivial
      · trivial
    · refine d_step rfl rfl ?_ (d_step rfl rfl ?_ (d_step rfl rfl ?_ (d_step rfl rfl ?_ (d_step rfl rfl ?_ (d_step rfl rfl ?_ (d_step rfl rfl ?_ (d_chain rfl (d_late rfl rfl ?_ (d_nil)))))))))
      · intro xv_ wx ρ hρ hwx hd K hK
        have e6 : ρ (.tmp 6) = .pointer (some ⟨q9, 0, none⟩) := (hρ.inn 6 rfl).trans s6
        have h_q9 := keep_below h_q9 hwx
        refine g_loadB rfl e6 Try.isAgg50 Try.sizeOf50 rfl h_q9 ?_
        exact hK _ _ (Below.refl _ _) rfl
      · intro xv_ wx ρ hρ hwx hd K hK
        refine g_bslice0 rfl Try.underlying47 Try.sizeOf26 ?_
        intro q w' N
        exact hK _ _ N.below ⟨q, rfl, Nat.le_trans hwx.size N.lo, N.here⟩
      · intro xv_ wx ρ hρ hwx hd K hK
        have e2 : ρ (.tmp 2) = .pointer (some ⟨q2, 0, none⟩) := (hρ.inn 2 rfl).trans s2
        refine g_field (r := 1) rfl e2 Try.underlying50 rfl (fun w => Try.sizeOf47 w) rfl rfl ?_
        exact hK _ _ (Below.refl _ _) rfl
      · intro xv_ wx ρ hρ hwx hd K hK
        obtain r2 : xv_ 2 = .pointer (some ⟨q2, 1, none⟩) := hd 2 rfl
        have e32 : ρ (.tmp 32) = .pointer (some ⟨q2, 1, none⟩) := (hρ.out 2 32 rfl (by rw [hs.size]; decide) rfl).trans r2
        have h_q2 := keep_below h_q2 hwx
        refine g_load rfl e32 Try.isAgg47 (box_cell h_q2 rfl) ?_
        exact hK _ _ (Below.refl _ _) rfl
      · intro xv_ wx ρ hρ hwx hd K hK
        have e1 : ρ (.tmp 1) = .int .i64 ((kk : Nat) : Int) := (hρ.inn 1 rfl).trans s1
        refine g_move rfl e1 ?_
        exact hK _ _ (Below.refl _ _) rfl
      · intro xv_ wx ρ hρ hwx hd K hK
        obtain r3 : xv_ 3 = .slice A zs.length cp := hd 3 rfl
        have e33 : ρ (.tmp 33) = .slice A zs.length cp := (hρ.out 3 33 rfl (by rw [hs.size]; decide) rfl).trans r3
        obtain r4 : xv_ 4 = .int .i64 ((kk : Nat) : Int) := hd 4 rfl
        have e34 : ρ (.tmp 34) = .int .i64 ((kk : Nat) : Int) := (hρ.out 4 34 rfl (by rw [hs.size]; decide) rfl).trans r4
        refine g_head rfl e33 e34 Try.underlying47 (fun w => Try.sizeOf26 w) (by have := hnc_z; omega) ?_
        exact hK _ _ (Below.refl _ _) rfl
      · intro xv_ wx ρ hρ hwx hd K hK
        obtain ⟨q26, r1, g0_q26, h_q26⟩ : ∃ q26, xv_ 1 = .slice (some ⟨q26, 0, none⟩) 0 0 ∧ w24.heap.size ≤ q26 ∧ wx.heap[q26]? = some (.cells #[] 26 (0, 0)) := hd 1 rfl
        have e31 : ρ (.tmp 31) = .slice (some ⟨q26, 0, none⟩) 0 0 := (hρ.out 1 31 rfl (by rw [hs.size]; decide) rfl).trans r1
        obtain r5 : xv_ 5 = .slice A kk cp := hd 5 rfl
        have e35 : ρ (.tmp 35) = .slice A kk cp := (hρ.out 5 35 rfl (by rw [hs.size]; decide) rfl).trans r5
        refine g_append_fresh (news := (zs.take kk).flatMap cRecord) w24.heap.size (.agg #[.int .i64 0, .int .i64 0, .int .i64 0, .string ⟨#[]⟩]) 4 40 rfl e31 e35 Try.underlying47 infoRecord rfl (by decide) g0_q26 h_q26 (fun h => by have hz := hnn_z h; omega) ((Rd.take cRecord_len (hr_z.below hB) rfl (by omega)).below hwx) (flatRecord_one _) (by omega) hwx.size (by decide) ?_
        intro A c w' ho hb
        exact hK _ _ hb ⟨A, c, rfl, ho⟩
      · intro xv_ wx ρ hρ hwx hd
        exact ⟨_, fun w' => l_assign rfl rfl, trivial⟩
    · intro x0_ w29 hb_w29 hr0
      obtain r0 : x0_ 0 = .agg #[.int .i64 room, .slice A_r22 (zs.length - kk) c_r22, .slice B7 ds.length d7] := hr0 0 (by decide) rfl rfl
      obtain ⟨q26, r1, g0_q26, h_q26⟩ : ∃ q26, x0_ 1 = .slice (some ⟨q26, 0, none⟩) 0 0 ∧ w24.heap.size ≤ q26 ∧ w29.heap[q26]? = some (.cells #[] 26 (0, 0)) := hr0 1 (by decide) rfl rfl
      obtain r2 : x0_ 2 = .pointer (some ⟨q2, 1, none⟩) := hr0 2 (by decide) rfl rfl
      obtain r3 : x0_ 3 = .slice A zs.length cp := hr0 3 (by decide) rfl rfl
      obtain r4 : x0_ 4 = .int .i64 ((kk : Nat) : Int) := hr0 4 (by decide) rfl rfl
      obtain r5 : x0_ 5 = .slice A kk cp := hr0 5 (by decide) rfl rfl
      obtain ⟨A_r28, c_r28, r6, o_r28⟩ : ∃ (A_r28 : Option Addr) (c_r28 : Nat), x0_ 6 = .slice A_r28 kk c_r28 ∧ ((w29).ownsRow w24.heap.size 26 4 (.slice A_r28 kk c_r28) kk ((zs.take kk).flatMap cRecord)) := hr0 6 (by decide) rfl rfl
      clear hr0
      have d_r28_q2 := own_ne_box o_r28 (lt_of_block h_q2)
      have d_r28_q4 := own_ne_box o_r28 (lt_of_block h_q4)
      have d_r28_q9 := own_ne_box o_r28 (lt_of_block h_q9)
      have m_z7_r28 := own_ne_row o_z7 o_r28 (Nat.le_refl _)
      have m_r28_z7 := ne_row_symm m_z7_r28
      have m_y7_r28 := own_ne_row o_y7 o_r28 (Nat.le_refl _)
      have m_r28_y7 := ne_row_symm m_y7_r28
      have m_r22_r28 := own_ne_row o_r22 o_r28 (Nat.le_refl _)
      have m_r28_r22 := ne_row_symm m_r22_r28
      have g_r28 : ∀ b, (A_r28 : Option Addr).map (·.block) = some b → w.heap.size ≤ b := fun b h => Nat.le_trans hB.size (own_row o_r28 b h).1
      replace o_r28 := own_base (base := w.heap.size) o_r28 hB.size
      replace h_q2 := keep_below h_q2 hb_w29
      replace h_q4 := keep_below h_q4 hb_w29
      replace h_q9 := keep_below h_q9 hb_w29
      replace o_z7 := own_below o_z7 hb_w29
      replace o_y7 := own_below o_y7 hb_w29
      replace o_r22 := own_below o_r22 hb_w29
      replace hB := hB.trans (hb_w29.mono hB.size)
      clear hb_w29
      intro op_ ho_ xv_ ρ hρ qx_ ql_ qk_
      obtain rfl := Option.some.inj ho_
      clear ho_
      have e4 : ρ (.tmp 4) = .pointer (some ⟨q4, 0, none⟩) := (hρ.inn 4 rfl).trans s4
      have e30 : ρ (.tmp 30) = .agg #[.int .i64 room, .slice A_r22 (zs.length - kk) c_r22, .slice B7 ds.length d7] := (hρ.out 0 30 rfl (by rw [hs.size]; decide) rfl).trans ((qx_ 0 (by decide) rfl rfl).trans r0)
      refine g_storeB rfl e4 e30 Try.sizeOf50 rfl rfl h_q4 rfl ?_
      intro w30 W_w30
      replace h_q2 := keep_wrote h_q2 W_w30 n_q4_q2
      replace h_q4 := W_w30.here
      replace h_q9 := keep_wrote h_q9 W_w30 n_q4_q9
      replace o_z7 := own_wrote o_z7 W_w30 d_z7_q4
      replace o_y7 := own_wrote o_y7 W_w30 d_y7_q4
      replace o_r22 := own_wrote o_r22 W_w30 d_r22_q4
      replace o_r28 := own_wrote o_r28 W_w30 d_r28_q4
      replace hB := below_wrote hB hB.size W_w30 g_q4.le
      clear W_w30
      clear e30 e4
      clear hρ qx_ ql_ qk_
      intro xv_ a27 hρ hsz hdf qx_ ql_ qk_ qlk_
      replace s4 : a27.eval (.tmp 4) = .pointer (some ⟨q4, 0, none⟩) := (hρ.inn 4 rfl).trans s4
      have s5 : a27.eval (.tmp 5) = .slice A_r28 kk c_r28 := (hρ.out 8 5 rfl (by rw [hs.size]; decide)).trans ((qlk_ (8, 6) (by simp)).trans ((qx_ 6 (by decide) rfl rfl).trans r6))
      replace hs : St 37 a27 := ⟨hsz.trans hs.size, hdf.trans hs.nodef⟩
      clear hρ hsz hdf qx_ ql_ qk_ qlk_
      refine hK25 _ _ ?_
      clear hK25
      refine wp_ret ?_
      try dsimp only [Exit.then, Exit.inBlock]
      refine ret2 hs Try.results45 (res_cell s4 h_q4 Try.isAgg50 Try.sizeOf50 rfl) (res_tmp s5) ?_
      refine ⟨_, rfl, ?_, hB⟩
      rw [hc.out.1, hc.out.2]
      have e1 : (zs.drop kk).length = zs.length - kk := by rw [List.length_drop]
      have e2 : (zs.take kk).length = kk := by rw [List.length_take]; omega
      rw [e1, e2]
      exact ⟨_, _, _, _, _, _, rfl, o_r22, o_y7, o_r28, m_r22_r28⟩
  · have hkn : zs.length ≤ zs.length := Nat.le_refl _
    have hc := Lib.hid (show trL room k zs ds = zs.drop zs.length ∧ trG room k zs ds = zs.take zs.length by unfold trL trG trOk; rw [hok, decide_eq_true (by omega : 0 ≤ k), show trN k zs = zs.length from by unfold trN; omega]; exact ⟨rfl, rfl⟩)
    refine enter 37 Try.func45 rfl rfl (Nat.le_of_ble_eq_true rfl) ?_
    intro a0 hs hargs
    have s0 : a0.eval (.tmp 0) = .agg #[.int .i64 room, .slice A zs.length cp, .slice B ds.length dp] := hargs 0 _ rfl
    have s1 : a0.eval (.tmp 1) = .int .i64 k := hargs 1 _ rfl
    clear hargs
    have hB : Below w.heap.size w w := Below.refl _ _
    refine wp_seq_k fun K1 hK1 => ?_
    refine wp_region_lit ?_
    refine q_val rfl rfl ?_
    refine g_box rfl s0 rfl ?_
    intro q2 w3 N_q2
    have g_q2 : GeB w.heap.size q2 := ⟨Nat.le_trans hB.size N_q2.lo⟩
    replace hB := below_new hB hB.size N_q2
    have h_q2 := N_q2.here
    clear N_q2
    intro a1 p1
    have s2 : a1.eval (.tmp 2) = .pointer (some ⟨q2, 0, none⟩) := p1.at hs (by decide)
    replace hs := p1.st hs
    refine q_val rfl rfl ?_
    refine g_alloc rfl Try.zeroValue50 rfl ?_
    intro q4 w5 N_q4
    have n_q2_q4 := N_q4.ne ⟨lt_of_block h_q2⟩
    have n_q4_q2 := n_q2_q4.symm
    have g_q4 : GeB w.heap.size q4 := ⟨Nat.le_trans hB.size N_q4.lo⟩
    replace h_q2 := keep_below h_q2 N_q4.below
    replace hB := below_new hB hB.size N_q4
    have h_q4 := N_q4.here
    clear N_q4
    intro a2 p2
    have s4 : a2.eval (.tmp 4) = .pointer (some ⟨q4, 0, none⟩) := p2.at hs (by decide)
    replace hs := p2.st hs
    refine q_val rfl rfl ?_
    refine g_assign rfl rfl ?_
    intro a3 p3
    have s5 : a3.eval (.tmp 5) = .slice none 0 0 := p3.at hs (by decide)
    replace hs := p3.st hs
    refine wpList_nil ?_
    replace s1 : a3.eval (.tmp 1) = .int .i64 k := ((p3.ne rfl).trans ((p2.ne rfl).trans (p1.ne rfl))).trans s1
    replace s2 : a3.eval (.tmp 2) = .pointer (some ⟨q2, 0, none⟩) := ((p3.ne rfl).trans (p2.ne rfl)).trans s2
    replace s4 : a3.eval (.tmp 4) = .pointer (some ⟨q4, 0, none⟩) := (p3.ne rfl).trans s4
    refine hK1 _ _ ?_
    clear hK1
    refine wp_seq_k fun K6 hK6 => ?_
    refine wp_region_lit ?_
    refine q_val rfl rfl ?_
    refine g_loadB rfl s2 Try.isAgg50 Try.sizeOf50 rfl h_q2 ?_
    intro a4 p4
    have s7 : a4.eval (.tmp 7) = .agg #[.int .i64 room, .slice A zs.length cp, .slice B ds.length dp] := p4.at hs (by decide)
    replace hs := p4.st hs
    refine q_val rfl rfl ?_
    refine g_call rfl rfl Try.call74 (arr1 s7) ?_
    refine (copyRecorder_any _ _ _ _ _ _ _ zs ds _ rfl (by omega) hnn_z (hr_z.below hB) rfl (by omega) hnn_d (hr_d.below hB)).mono ?_
    rintro e w8 ⟨A7, c7, B7, d7, rfl, o_z7, o_y7, hb7⟩
    refine ⟨_, rfl, ?_⟩
    have m_z7_y7 := own_ne_type o_z7 o_y7 (by decide)
    have m_y7_z7 := ne_row_symm m_z7_y7
    have d_z7_q2 := own_ne_box o_z7 (lt_of_block h_q2)
    have d_z7_q4 := own_ne_box o_z7 (lt_of_block h_q4)
    have g_z7 : ∀ b, (A7 : Option Addr).map (·.block) = some b → w.heap.size ≤ b := fun b h => Nat.le_trans hB.size (own_row o_z7 b h).1
    replace o_z7 := own_base (base := w.heap.size) o_z7 hB.size
    have d_y7_q2 := own_ne_box o_y7 (lt_of_block h_q2)
    have d_y7_q4 := own_ne_box o_y7 (lt_of_block h_q4)
    have g_y7 : ∀ b, (B7 : Option Addr).map (·.block) = some b → w.heap.size ≤ b := fun b h => Nat.le_trans hB.size (own_row o_y7 b h).1
    replace o_y7 := own_base (base := w.heap.size) o_y7 hB.size
    replace h_q2 := keep_below h_q2 hb7
    replace h_q4 := keep_below h_q4 hb7
    replace hB := hB.trans (hb7.mono hB.size)
    clear hb7
    intro a5 p5
    have s8 : a5.eval (.tmp 8) = .agg #[.int .i64 room, .slice A7 zs.length c7, .slice B7 ds.length d7] := p5.at hs (by decide)
    replace hs := p5.st hs
    refine q_val rfl rfl ?_
    refine g_alloc rfl Try.zeroValue50 rfl ?_
    intro q9 w10 N_q9
    have n_q2_q9 := N_q9.ne ⟨lt_of_block h_q2⟩
    have n_q9_q2 := n_q2_q9.symm
    have n_q4_q9 := N_q9.ne ⟨lt_of_block h_q4⟩
    have n_q9_q4 := n_q4_q9.symm
    have d_z7_q9 := own_ne_new o_z7 N_q9
    have d_y7_q9 := own_ne_new o_y7 N_q9
    have g_q9 : GeB w.heap.size q9 := ⟨Nat.le_trans hB.size N_q9.lo⟩
    replace h_q2 := keep_below h_q2 N_q9.below
    replace h_q4 := keep_below h_q4 N_q9.below
    replace o_z7 := own_below o_z7 N_q9.below
    replace o_y7 := own_below o_y7 N_q9.below
    replace hB := below_new hB hB.size N_q9
    have h_q9 := N_q9.here
    clear N_q9
    intro a6 p6
    have s6 : a6.eval (.tmp 6) = .pointer (some ⟨q9, 0, none⟩) := p6.at hs (by decide)
    replace hs := p6.st hs
    refine q_eff rfl rfl ?_
    refine g_storeB rfl s6 ((p6.ne rfl).trans s8) Try.sizeOf50 rfl rfl h_q9 rfl ?_
    intro w11 W_w11
    replace h_q2 := keep_wrote h_q2 W_w11 n_q9_q2
    replace h_q4 := keep_wrote h_q4 W_w11 n_q9_q4
    replace h_q9 := W_w11.here
    replace o_z7 := own_wrote o_z7 W_w11 d_z7_q9
    replace o_y7 := own_wrote o_y7 W_w11 d_y7_q9
    replace hB := below_wrote hB hB.size W_w11 g_q9.le
    clear W_w11
    refine wpList_nil ?_
    replace s1 : a6.eval (.tmp 1) = .int .i64 k := ((p6.ne rfl).trans ((p5.ne rfl).trans (p4.ne rfl))).trans s1
    replace s2 : a6.eval (.tmp 2) = .pointer (some ⟨q2, 0, none⟩) := ((p6.ne rfl).trans ((p5.ne rfl).trans (p4.ne rfl))).trans s2
    replace s4 : a6.eval (.tmp 4) = .pointer (some ⟨q4, 0, none⟩) := ((p6.ne rfl).trans ((p5.ne rfl).trans (p4.ne rfl))).trans s4
    replace s5 : a6.eval (.tmp 5) = .slice none 0 0 := ((p6.ne rfl).trans ((p5.ne rfl).trans (p4.ne rfl))).trans s5
    refine hK6 _ _ ?_
    clear hK6
    refine wp_seq_k fun K12 hK12 => ?_
    refine wp_seq_k fun K13 hK13 => ?_
    refine wp_region_lit ?_
    refine q_val rfl rfl ?_
    refine g_loadB rfl s2 Try.isAgg50 Try.sizeOf50 rfl h_q2 ?_
    intro a7 p7
    have s9 : a7.eval (.tmp 9) = .agg #[.int .i64 room, .slice A zs.length cp, .slice B ds.length dp] := p7.at hs (by decide)
    replace hs := p7.st hs
    refine q_val rfl rfl ?_
    refine g_call rfl rfl Try.call41 (arr1 s9) ?_
    refine (sRecorderOk_any _ _ _ _ _ _ _ zs ds _ rfl (by omega) hT (hr_z.below hB) rfl (by omega) (hr_d.below hB)).mono ?_
    rintro e w15 ⟨rfl, hb14⟩
    refine ⟨_, rfl, ?_⟩
    replace h_q2 := keep_below h_q2 hb14
    replace h_q4 := keep_below h_q4 hb14
    replace h_q9 := keep_below h_q9 hb14
    replace o_z7 := own_below o_z7 hb14
    replace o_y7 := own_below o_y7 hb14
    replace hB := hB.trans (hb14.mono hB.size)
    clear hb14
    intro a8 p8
    have s10 : a8.eval (.tmp 10) = .bool true := (p8.at hs (by decide)).trans (congrArg Value.bool hok)
    replace hs := p8.st hs
    refine q_val rfl rfl ?_
    refine g_not rfl s10 ?_
    intro a9 p9
    have s11 : a9.eval (.tmp 11) = .bool false := p9.at hs (by decide)
    replace hs := p9.st hs
    refine q_val rfl rfl ?_
    refine g_move rfl s11 ?_
    intro a10 p10
    have s12 : a10.eval (.tmp 12) = .bool false := p10.at hs (by decide)
    replace hs := p10.st hs
    refine q_take rfl rfl s12 rfl ?_
    refine g_move rfl (((p10.ne rfl).trans ((p9.ne rfl).trans ((p8.ne rfl).trans (p7.ne rfl)))).trans s1) ?_
    intro a11 p11
    have s13 : a11.eval (.tmp 13) = .int .i64 k := p11.at hs (by decide)
    replace hs := p11.st hs
    refine q_take rfl rfl ((p11.ne rfl).trans s12) rfl ?_
    refine g_lss rfl s13 rfl ?_
    intro a12 p12
    have s14 : a12.eval (.tmp 14) = .bool false := (p12.at hs (by decide)).trans (congrArg Value.bool (decide_eq_false (by omega)))
    replace hs := p12.st hs
    refine q_val rfl rfl ?_
    refine g_pick_f rfl (((p12.ne rfl).trans (p11.ne rfl)).trans s12) s14 ?_
    intro a13 p13
    have s15 : a13.eval (.tmp 15) = .bool false := p13.at hs (by decide)
    replace hs := p13.st hs
    refine wpList_nil ?_
    replace s1 : a13.eval (.tmp 1) = .int .i64 k := ((p13.ne rfl).trans ((p12.ne rfl).trans ((p11.ne rfl).trans ((p10.ne rfl).trans ((p9.ne rfl).trans ((p8.ne rfl).trans (p7.ne rfl))))))).trans s1
    replace s2 : a13.eval (.tmp 2) = .pointer (some ⟨q2, 0, none⟩) := ((p13.ne rfl).trans ((p12.ne rfl).trans ((p11.ne rfl).trans ((p10.ne rfl).trans ((p9.ne rfl).trans ((p8.ne rfl).trans (p7.ne rfl))))))).trans s2
    replace s4 : a13.eval (.tmp 4) = .pointer (some ⟨q4, 0, none⟩) := ((p13.ne rfl).trans ((p12.ne rfl).trans ((p11.ne rfl).trans ((p10.ne rfl).trans ((p9.ne rfl).trans ((p8.ne rfl).trans (p7.ne rfl))))))).trans s4
    replace s5 : a13.eval (.tmp 5) = .slice none 0 0 := ((p13.ne rfl).trans ((p12.ne rfl).trans ((p11.ne rfl).trans ((p10.ne rfl).trans ((p9.ne rfl).trans ((p8.ne rfl).trans (p7.ne rfl))))))).trans s5
    replace s6 : a13.eval (.tmp 6) = .pointer (some ⟨q9, 0, none⟩) := ((p13.ne rfl).trans ((p12.ne rfl).trans ((p11.ne rfl).trans ((p10.ne rfl).trans ((p9.ne rfl).trans ((p8.ne rfl).trans (p7.ne rfl))))))).trans s6
    refine hK13 _ _ ?_
    clear hK13
    refine c_false s15 ?_
    refine wp_skip ?_
    refine hK12 _ _ ?_
    clear hK12
    refine wp_seq_k fun K16 hK16 => ?_
    refine wp_region_lit ?_
    refine q_val rfl rfl ?_
    refine g_move rfl s1 ?_
    intro a14 p14
    have s18 : a14.eval (.tmp 18) = .int .i64 k := p14.at hs (by decide)
    replace hs := p14.st hs
    refine q_val rfl rfl ?_
    refine g_field (r := 1) rfl ((p14.ne rfl).trans s2) Try.underlying50 rfl (fun w => Try.sizeOf47 w) rfl rfl ?_
    intro a15 p15
    have s19 : a15.eval (.tmp 19) = .pointer (some ⟨q2, 1, none⟩) := p15.at hs (by decide)
    replace hs := p15.st hs
    refine q_val rfl rfl ?_
    refine g_load rfl s19 Try.isAgg47 (box_cell h_q2 rfl) ?_
    intro a16 p16
    have s20 : a16.eval (.tmp 20) = .slice A zs.length cp := p16.at hs (by decide)
    replace hs := p16.st hs
    refine q_val rfl rfl ?_
    refine g_len (e := _) rfl Try.underlying47 s20 ?_
    intro a17 p17
    have s21 : a17.eval (.tmp 21) = .int .i64 ((zs.length : Nat) : Int) := p17.at hs (by decide)
    replace hs := p17.st hs
    refine q_val rfl rfl ?_
    refine g_min (r := ((zs.length : Nat) : Int)) rfl (((p17.ne rfl).trans ((p16.ne rfl).trans (p15.ne rfl))).trans s18) s21 (by split <;> omega) ?_
    intro a18 p18
    have s22 : a18.eval (.tmp 22) = .int .i64 ((zs.length : Nat) : Int) := p18.at hs (by decide)
    replace hs := p18.st hs
    refine q_val rfl rfl ?_
    refine g_assign rfl s22 ?_
    intro a19 p19
    have s1 : a19.eval (.tmp 1) = .int .i64 ((zs.length : Nat) : Int) := p19.at hs (by decide)
    replace hs := p19.st hs
    refine wpList_nil ?_
    replace s2 : a19.eval (.tmp 2) = .pointer (some ⟨q2, 0, none⟩) := ((p19.ne rfl).trans ((p18.ne rfl).trans ((p17.ne rfl).trans ((p16.ne rfl).trans ((p15.ne rfl).trans (p14.ne rfl)))))).trans s2
    replace s4 : a19.eval (.tmp 4) = .pointer (some ⟨q4, 0, none⟩) := ((p19.ne rfl).trans ((p18.ne rfl).trans ((p17.ne rfl).trans ((p16.ne rfl).trans ((p15.ne rfl).trans (p14.ne rfl)))))).trans s4
    replace s5 : a19.eval (.tmp 5) = .slice none 0 0 := ((p19.ne rfl).trans ((p18.ne rfl).trans ((p17.ne rfl).trans ((p16.ne rfl).trans ((p15.ne rfl).trans (p14.ne rfl)))))).trans s5
    replace s6 : a19.eval (.tmp 6) = .pointer (some ⟨q9, 0, none⟩) := ((p19.ne rfl).trans ((p18.ne rfl).trans ((p17.ne rfl).trans ((p16.ne rfl).trans ((p15.ne rfl).trans (p14.ne rfl)))))).trans s6
    refine hK16 _ _ ?_
    clear hK16
    refine wp_seq_k fun K17 hK17 => ?_
    refine wp_region_lit ?_
    refine q_val rfl rfl ?_
    refine g_bslice0 rfl Try.underlying47 Try.sizeOf26 ?_
    intro q18 w19 N_q18
    have n_q2_q18 := N_q18.ne ⟨lt_of_block h_q2⟩
    have n_q18_q2 := n_q2_q18.symm
    have n_q4_q18 := N_q18.ne ⟨lt_of_block h_q4⟩
    have n_q18_q4 := n_q4_q18.symm
    have n_q9_q18 := N_q18.ne ⟨lt_of_block h_q9⟩
    have n_q18_q9 := n_q9_q18.symm
    have d_z7_q18 := own_ne_new o_z7 N_q18
    have d_y7_q18 := own_ne_new o_y7 N_q18
    have g_q18 : GeB w.heap.size q18 := ⟨Nat.le_trans hB.size N_q18.lo⟩
    replace h_q2 := keep_below h_q2 N_q18.below
    replace h_q4 := keep_below h_q4 N_q18.below
    replace h_q9 := keep_below h_q9 N_q18.below
    replace o_z7 := own_below o_z7 N_q18.below
    replace o_y7 := own_below o_y7 N_q18.below
    replace hB := below_new hB hB.size N_q18
    have h_q18 := N_q18.here
    clear N_q18
    intro a20 p20
    have s23 : a20.eval (.tmp 23) = .slice (some ⟨q18, 0, none⟩) 0 0 := p20.at hs (by decide)
    replace hs := p20.st hs
    refine q_val rfl rfl ?_
    refine g_field (r := 1) rfl ((p20.ne rfl).trans s2) Try.underlying50 rfl (fun w => Try.sizeOf47 w) rfl rfl ?_
    intro a21 p21
    have s24 : a21.eval (.tmp 24) = .pointer (some ⟨q2, 1, none⟩) := p21.at hs (by decide)
    replace hs := p21.st hs
    refine q_val rfl rfl ?_
    refine g_load rfl s24 Try.isAgg47 (box_cell h_q2 rfl) ?_
    intro a22 p22
    have s25 : a22.eval (.tmp 25) = .slice A zs.length cp := p22.at hs (by decide)
    replace hs := p22.st hs
    refine q_val rfl rfl ?_
    refine g_move rfl (((p22.ne rfl).trans ((p21.ne rfl).trans (p20.ne rfl))).trans s1) ?_
    intro a23 p23
    have s26 : a23.eval (.tmp 26) = .int .i64 ((zs.length : Nat) : Int) := p23.at hs (by decide)
    replace hs := p23.st hs
    obtain ⟨A20, hA_v21⟩ : ∃ x_, x_ = tailA 4 A cp zs.length := ⟨_, rfl⟩
    have T_v21 : Tail 4 A A20 zs.length cp zs.length := hA_v21 ▸ tailA_of 4 A zs.length cp zs.length hnc_z
    refine q_val rfl rfl ?_
    refine g_tailD rfl ((p23.ne rfl).trans s25) s26 Try.underlying47 (fun w => Try.sizeOf26 w) (by omega) rfl rfl hA_v21 ?_
    intro a24 p24
    have s27 : a24.eval (.tmp 27) = .slice A20 (zs.length - zs.length) (cp - zs.length) := p24.at hs (by decide)
    replace hs := p24.st hs
    refine q_val rfl rfl ?_
    refine g_append (n' := zs.length - zs.length) (ys := (zs.drop zs.length).flatMap cRecord) w.heap.size (.agg #[.int .i64 0, .int .i64 0, .int .i64 0, .string ⟨#[]⟩]) 4 40 rfl (((p24.ne rfl).trans ((p23.ne rfl).trans ((p22.ne rfl).trans (p21.ne rfl)))).trans s23) s27 Try.underlying47 infoRecord rfl (by decide) (own_box_row (base := w.heap.size) (xs := ([]).flatMap cRecord) h_q18 g_q18.le rfl (by decide) rfl) (fun h => by have hz := hnn_z (T_v21.nil h); omega) (T_v21.rd cRecord_len rfl (by omega) (hr_z.below hB)) (flatRecord_one _) (by omega) hB.size (by decide) (by omega) (by first | rfl | simp [List.flatMap_append] | (simp [List.flatMap_append, cRecord]; done)) ?_
    intro A_r22 c_r22 w23 P_r22
    have d_r22_q2 := P_r22.ne (neb_map n_q18_q2) (lt_of_block h_q2)
    have d_r22_q4 := P_r22.ne (neb_map n_q18_q4) (lt_of_block h_q4)
    have d_r22_q9 := P_r22.ne (neb_map n_q18_q9) (lt_of_block h_q9)
    have m_z7_r22 := P_r22.row (row_ne_box d_z7_q18) o_z7
    have m_r22_z7 := ne_row_symm m_z7_r22
    have m_y7_r22 := P_r22.row (row_ne_box d_y7_q18) o_y7
    have m_r22_y7 := ne_row_symm m_y7_r22
    have g_r22 := P_r22.ge (ge_box g_q18.le) hB.size
    replace h_q2 := keep_grown h_q2 P_r22.grown (neb_map n_q18_q2)
    replace h_q4 := keep_grown h_q4 P_r22.grown (neb_map n_q18_q4)
    replace h_q9 := keep_grown h_q9 P_r22.grown (neb_map n_q18_q9)
    replace o_z7 := own_grown o_z7 P_r22.grown (row_ne_box d_z7_q18)
    replace o_y7 := own_grown o_y7 P_r22.grown (row_ne_box d_y7_q18)
    replace hB := below_grown hB hB.size P_r22.grown (ge_box g_q18.le)
    have o_r22 := P_r22.own
    clear P_r22
    intro a25 p25
    have s28 : a25.eval (.tmp 28) = .slice A_r22 (zs.length - zs.length) c_r22 := p25.at hs (by decide)
    replace hs := p25.st hs
    refine q_val rfl rfl ?_
    refine g_field (r := 1) rfl (((p25.ne rfl).trans ((p24.ne rfl).trans ((p23.ne rfl).trans ((p22.ne rfl).trans ((p21.ne rfl).trans (p20.ne rfl)))))).trans s6) Try.underlying50 rfl (fun w => Try.sizeOf47 w) rfl rfl ?_
    intro a26 p26
    have s29 : a26.eval (.tmp 29) = .pointer (some ⟨q9, 1, none⟩) := p26.at hs (by decide)
    replace hs := p26.st hs
    refine q_eff rfl rfl ?_
    refine g_store (cs' := #[.int .i64 room, .slice A_r22 (zs.length - zs.length) c_r22, .slice B7 ds.length d7]) rfl s29 ((p26.ne rfl).trans s28) Try.sizeOf47 rfl h_q9 (Nat.le_of_ble_eq_true rfl) rfl ?_
    intro w24 W_w24
    replace h_q2 := keep_wrote h_q2 W_w24 n_q9_q2
    replace h_q4 := keep_wrote h_q4 W_w24 n_q9_q4
    replace h_q9 := W_w24.here
    replace o_z7 := own_wrote o_z7 W_w24 d_z7_q9
    replace o_y7 := own_wrote o_y7 W_w24 d_y7_q9
    replace o_r22 := own_wrote o_r22 W_w24 d_r22_q9
    replace hB := below_wrote hB hB.size W_w24 g_q9.le
    clear W_w24
    refine wpList_nil ?_
    replace s1 : a26.eval (.tmp 1) = .int .i64 ((zs.length : Nat) : Int) := ((p26.ne rfl).trans ((p25.ne rfl).trans ((p24.ne rfl).trans ((p23.ne rfl).trans ((p22.ne rfl).trans ((p21.ne rfl).trans (p20.ne rfl))))))).trans s1
    replace s2 : a26.eval (.tmp 2) = .pointer (some ⟨q2, 0, none⟩) := ((p26.ne rfl).trans ((p25.ne rfl).trans ((p24.ne rfl).trans ((p23.ne rfl).trans ((p22.ne rfl).trans ((p21.ne rfl).trans (p20.ne rfl))))))).trans s2
    replace s4 : a26.eval (.tmp 4) = .pointer (some ⟨q4, 0, none⟩) := ((p26.ne rfl).trans ((p25.ne rfl).trans ((p24.ne rfl).trans ((p23.ne rfl).trans ((p22.ne rfl).trans ((p21.ne rfl).trans (p20.ne rfl))))))).trans s4
    replace s5 : a26.eval (.tmp 5) = .slice none 0 0 := ((p26.ne rfl).trans ((p25.ne rfl).trans ((p24.ne rfl).trans ((p23.ne rfl).trans ((p22.ne rfl).trans ((p21.ne rfl).trans (p20.ne rfl))))))).trans s5
    replace s6 : a26.eval (.tmp 6) = .pointer (some ⟨q9, 0, none⟩) := ((p26.ne rfl).trans ((p25.ne rfl).trans ((p24.ne rfl).trans ((p23.ne rfl).trans ((p22.ne rfl).trans ((p21.ne rfl).trans (p20.ne rfl))))))).trans s6
    refine hK17 _ _ ?_
    clear hK17
    refine wp_seq_k fun K25 hK25 => ?_
    refine wp_drawn (n := 37) [8] [7] [(8, 6)] (fun k_ v_ wx => match k_ with | 0 => v_ = .agg #[.int .i64 room, .slice A_r22 (zs.length - zs.length) c_r22, .slice B7 ds.length d7] | 1 => ∃ q26, v_ = .slice (some ⟨q26, 0, none⟩) 0 0 ∧ w24.heap.size ≤ q26 ∧ wx.heap[q26]? = some (.cells #[] 26 (0, 0)) | 2 => v_ = .pointer (some ⟨q2, 1, none⟩) | 3 => v_ = .slice A zs.length cp | 4 => v_ = .int .i64 ((zs.length : Nat) : Int) | 5 => v_ = .slice A zs.length cp | 6 => ∃ (A_r28 : Option Addr) (c_r28 : Nat), v_ = .slice A_r28 zs.length c_r28 ∧ ((wx).ownsRow w24.heap.size 26 4 (.slice A_r28 zs.length c_r28) zs.length ((zs.take zs.length).flatMap cRecord)) | _ => True) (by kernel_rfl) (by kernel_rfl) (by kernel_rfl) (by kernel_rfl) hs.size ?_ ?_ ?_
    · intro i v wa wb hb hr
      rcases i with _ | _ | _ | _ | _ | _ | _ | _ | _ | i
      · exact hr
      · obtain ⟨q26, hr, hg, hh⟩ := hr; exact ⟨q26, hr, hg, keep_below hh hb⟩
      · exact hr
      · exact hr
      · exact hr
      · exact hr
      · obtain ⟨A_r28, c_r28, hr, o_r28⟩ := hr; exact ⟨A_r28, c_r28, hr, own_below o_r28 hb⟩
      · trivial
      · trivial
      · trivial
    · refine d_step rfl rfl ?_ (d_step rfl rfl ?_ (d_step rfl rfl ?_ (d_step rfl rfl ?_ (d_step rfl rfl ?_ (d_step rfl rfl ?_ (d_step rfl rfl ?_ (d_chain rfl (d_late rfl rfl ?_ (d_nil)))))))))
      · intro xv_ wx ρ hρ hwx hd K hK
        have e6 : ρ (.tmp 6) = .pointer (some ⟨q9, 0, none⟩) := (hρ.inn 6 rfl).trans s6
        have h_q9 := keep_below h_q9 hwx
        refine g_loadB rfl e6 Try.isAgg50 Try.sizeOf50 rfl h_q9 ?_
        exact hK _ _ (Below.refl _ _) rfl
      · intro xv_ wx ρ hρ hwx hd K hK
        refine g_bslice0 rfl Try.underlying47 Try.sizeOf26 ?_
        intro q w' N
        exact hK _ _ N.below ⟨q, rfl, Nat.le_trans hwx.size N.lo, N.here⟩
      · intro xv_ wx ρ hρ hwx hd K hK
        have e2 : ρ (.tmp 2) = .pointer (some ⟨q2, 0, none⟩) := (hρ.inn 2 rfl).trans s2
        refine g_field (r := 1) rfl e2 Try.underlying50 rfl (fun w => Try.sizeOf47 w) rfl rfl ?_
        exact hK _ _ (Below.refl _ _) rfl
      · intro xv_ wx ρ hρ hwx hd K hK
        obtain r2 : xv_ 2 = .pointer (some ⟨q2, 1, none⟩) := hd 2 rfl
        have e32 : ρ (.tmp 32) = .pointer (some ⟨q2, 1, none⟩) := (hρ.out 2 32 rfl (by rw [hs.size]; decide) rfl).trans r2
        have h_q2 := keep_below h_q2 hwx
        refine g_load rfl e32 Try.isAgg47 (box_cell h_q2 rfl) ?_
        exact hK _ _ (Below.refl _ _) rfl
      · intro xv_ wx ρ hρ hwx hd K hK
        have e1 : ρ (.tmp 1) = .int .i64 ((zs.length : Nat) : Int) := (hρ.inn 1 rfl).trans s1
        refine g_move rfl e1 ?_
        exact hK _ _ (Below.refl _ _) rfl
      · intro xv_ wx ρ hρ hwx hd K hK
        obtain r3 : xv_ 3 = .slice A zs.length cp := hd 3 rfl
        have e33 : ρ (.tmp 33) = .slice A zs.length cp := (hρ.out 3 33 rfl (by rw [hs.size]; decide) rfl).trans r3
        obtain r4 : xv_ 4 = .int .i64 ((zs.length : Nat) : Int) := hd 4 rfl
        have e34 : ρ (.tmp 34) = .int .i64 ((zs.length : Nat) : Int) := (hρ.out 4 34 rfl (by rw [hs.size]; decide) rfl).trans r4
        refine g_head rfl e33 e34 Try.underlying47 (fun w => Try.sizeOf26 w) (by have := hnc_z; omega) ?_
        exact hK _ _ (Below.refl _ _) rfl
      · intro xv_ wx ρ hρ hwx hd K hK
        obtain ⟨q26, r1, g0_q26, h_q26⟩ : ∃ q26, xv_ 1 = .slice (some ⟨q26, 0, none⟩) 0 0 ∧ w24.heap.size ≤ q26 ∧ wx.heap[q26]? = some (.cells #[] 26 (0, 0)) := hd 1 rfl
        have e31 : ρ (.tmp 31) = .slice (some ⟨q26, 0, none⟩) 0 0 := (hρ.out 1 31 rfl (by rw [hs.size]; decide) rfl).trans r1
        obtain r5 : xv_ 5 = .slice A zs.length cp := hd 5 rfl
        have e35 : ρ (.tmp 35) = .slice A zs.length cp := (hρ.out 5 35 rfl (by rw [hs.size]; decide) rfl).trans r5
        refine g_append_fresh (news := (zs.take zs.length).flatMap cRecord) w24.heap.size (.agg #[.int .i64 0, .int .i64 0, .int .i64 0, .string ⟨#[]⟩]) 4 40 rfl e31 e35 Try.underlying47 infoRecord rfl (by decide) g0_q26 h_q26 (fun h => by have hz := hnn_z h; omega) ((Rd.take cRecord_len (hr_z.below hB) rfl (by omega)).below hwx) (flatRecord_one _) (by omega) hwx.size (by decide) ?_
        intro A c w' ho hb
        exact hK _ _ hb ⟨A, c, rfl, ho⟩
      · intro xv_ wx ρ hρ hwx hd
        exact ⟨_, fun w' => l_assign rfl rfl, trivial⟩
    · intro x0_ w29 hb_w29 hr0
      obtain r0 : x0_ 0 = .agg #[.int .i64 room, .slice A_r22 (zs.length - zs.length) c_r22, .slice B7 ds.length d7] := hr0 0 (by decide) rfl rfl
      obtain ⟨q26, r1, g0_q26, h_q26⟩ : ∃ q26, x0_ 1 = .slice (some ⟨q26, 0, none⟩) 0 0 ∧ w24.heap.size ≤ q26 ∧ w29.heap[q26]? = some (.cells #[] 26 (0, 0)) := hr0 1 (by decide) rfl rfl
      obtain r2 : x0_ 2 = .pointer (some ⟨q2, 1, none⟩) := hr0 2 (by decide) rfl rfl
      obtain r3 : x0_ 3 = .slice A zs.length cp := hr0 3 (by decide) rfl rfl
      obtain r4 : x0_ 4 = .int .i64 ((zs.length : Nat) : Int) := hr0 4 (by decide) rfl rfl
      obtain r5 : x0_ 5 = .slice A zs.length cp := hr0 5 (by decide) rfl rfl
      obtain ⟨A_r28, c_r28, r6, o_r28⟩ : ∃ (A_r28 : Option Addr) (c_r28 : Nat), x0_ 6 = .slice A_r28 zs.length c_r28 ∧ ((w29).ownsRow w24.heap.size 26 4 (.slice A_r28 zs.length c_r28) zs.length ((zs.take zs.length).flatMap cRecord)) := hr0 6 (by decide) rfl rfl
      clear hr0
      have d_r28_q2 := own_ne_box o_r28 (lt_of_block h_q2)
      have d_r28_q4 := own_ne_box o_r28 (lt_of_block h_q4)
      have d_r28_q9 := own_ne_box o_r28 (lt_of_block h_q9)
      have m_z7_r28 := own_ne_row o_z7 o_r28 (Nat.le_refl _)
      have m_r28_z7 := ne_row_symm m_z7_r28
      have m_y7_r28 := own_ne_row o_y7 o_r28 (Nat.le_refl _)
      have m_r28_y7 := ne_row_symm m_y7_r28
      have m_r22_r28 := own_ne_row o_r22 o_r28 (Nat.le_refl _)
      have m_r28_r22 := ne_row_symm m_r22_r28
      have g_r28 : ∀ b, (A_r28 : Option Addr).map (·.block) = some b → w.heap.size ≤ b := fun b h => Nat.le_trans hB.size (own_row o_r28 b h).1
      replace o_r28 := own_base (base := w.heap.size) o_r28 hB.size
      replace h_q2 := keep_below h_q2 hb_w29
      replace h_q4 := keep_below h_q4 hb_w29
      replace h_q9 := keep_below h_q9 hb_w29
      replace o_z7 := own_below o_z7 hb_w29
      replace o_y7 := own_below o_y7 hb_w29
      replace o_r22 := own_below o_r22 hb_w29
      replace hB := hB.trans (hb_w29.mono hB.size)
      clear hb_w29
      intro op_ ho_ xv_ ρ hρ qx_ ql_ qk_
      obtain rfl := Option.some.inj ho_
      clear ho_
      have e4 : ρ (.tmp 4) = .pointer (some ⟨q4, 0, none⟩) := (hρ.inn 4 rfl).trans s4
      have e30 : ρ (.tmp 30) = .agg #[.int .i64 room, .slice A_r22 (zs.length - zs.length) c_r22, .slice B7 ds.length d7] := (hρ.out 0 30 rfl (by rw [hs.size]; decide) rfl).trans ((qx_ 0 (by decide) rfl rfl).trans r0)
      refine g_storeB rfl e4 e30 Try.sizeOf50 rfl rfl h_q4 rfl ?_
      intro w30 W_w30
      replace h_q2 := keep_wrote h_q2 W_w30 n_q4_q2
      replace h_q4 := W_w30.here
      replace h_q9 := keep_wrote h_q9 W_w30 n_q4_q9
      replace o_z7 := own_wrote o_z7 W_w30 d_z7_q4
      replace o_y7 := own_wrote o_y7 W_w30 d_y7_q4
      replace o_r22 := own_wrote o_r22 W_w30 d_r22_q4
      replace o_r28 := own_wrote o_r28 W_w30 d_r28_q4
      replace hB := below_wrote hB hB.size W_w30 g_q4.le
      clear W_w30
      clear e30 e4
      clear hρ qx_ ql_ qk_
      intro xv_ a27 hρ hsz hdf qx_ ql_ qk_ qlk_
      replace s4 : a27.eval (.tmp 4) = .pointer (some ⟨q4, 0, none⟩) := (hρ.inn 4 rfl).trans s4
      have s5 : a27.eval (.tmp 5) = .slice A_r28 zs.length c_r28 := (hρ.out 8 5 rfl (by rw [hs.size]; decide)).trans ((qlk_ (8, 6) (by simp)).trans ((qx_ 6 (by decide) rfl rfl).trans r6))
      replace hs : St 37 a27 := ⟨hsz.trans hs.size, hdf.trans hs.nodef⟩
      clear hρ hsz hdf qx_ ql_ qk_ qlk_
      refine hK25 _ _ ?_
      clear hK25
      refine wp_ret ?_
      try dsimp only [Exit.then, Exit.inBlock]
      refine ret2 hs Try.results45 (res_cell s4 h_q4 Try.isAgg50 Try.sizeOf50 rfl) (res_tmp s5) ?_
      refine ⟨_, rfl, ?_, hB⟩
      rw [hc.out.1, hc.out.2]
      have e1 : (zs.drop zs.length).length = zs.length - zs.length := by rw [List.length_drop]
      have e2 : (zs.take zs.length).length = zs.length := by rw [List.length_take]; omega
      rw [e1, e2]
      exact ⟨_, _, _, _, _, _, rfl, o_r22, o_y7, o_r28, m_r22_r28⟩
end Go.Proofs.Ytnjopeonmenopaa
