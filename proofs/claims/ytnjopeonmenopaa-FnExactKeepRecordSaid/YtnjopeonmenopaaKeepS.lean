/- Contract: the reference's recorder keeps a record. No condition. -/
import Derived.Test.YtnjopeonmenopaaKeep
import Derived.Test.YtnjopeonmenopaaLb
namespace Go.Proofs.Ytnjopeonmenopaa
open Go.RowKit

set_option maxRecDepth 100000 in
set_option maxHeartbeats 8000000 in
theorem sKeepRecord_any (room : Int) (A B : Option Addr) (n cp m dp : Nat) (zs : List ERecord) (ds : List Int) (x : ERecord) (w : World) (hn : zs.length = n) (hb : n ≤ 1048576) (_hnc_z : n ≤ cp) (hT : ∀ z ∈ zs, Txt z.f3) (hr_z : Rd w 4 A n (zs.flatMap cRecord)) (hnn_z : A = none → n = 0 ∧ cp = 0) (hm : ds.length = m) (hbm : m ≤ 1048576) (hnn_d : B = none → m = 0 ∧ dp = 0) (hr_d : Rd w 1 B m (ds.flatMap cI)) (hTx : Txt x.f3) :
    Calls Try.prog 51 #[.agg #[.int .i64 room, .slice A n cp, .slice B m dp], .agg #[.int .i64 x.f0, .int .i64 x.f1, .int .i64 x.f2, .string ⟨(x.f3).toArray⟩]] w fun e w' => ∃ v, e = .returned v ∧ KRes w.heap.size w' room (keepR room zs ds x) v ∧ Below w.heap.size w w' := by
  subst hn
  subst hm
  refine enter 109 Try.func51 rfl rfl (Nat.le_of_ble_eq_true rfl) ?_
  intro a0 hs hargs
  have s0 : a0.eval (.tmp 0) = .agg #[.int .i64 room, .slice A zs.length cp, .slice B ds.length dp] := hargs 0 _ rfl
  have s1 : a0.eval (.tmp 1) = .agg #[.int .i64 x.f0, .int .i64 x.f1, .int .i64 x.f2, .string ⟨(x.f3).toArray⟩] := hargs 1 _ rfl
  clear hargs
  have hB : Below w.heap.size w w := Below.refl _ _
  refine wp_seq_k fun K1 hK1 => ?_
  refine wp_region_lit ?_
  refine q_val rfl rfl ?_
  refine g_box rfl s0 rfl ?_
  intro q2 w3 N_q2
  have g_q2 : GeB w.heap.size q2 := ⟨Nat.le_trans hB.size N_q2.lo⟩
  replace hB := below_new hB hB.size N_q2
  have h_q2 := N_q2.here
  clear N_q2
  intro a1 p1
  have s2 : a1.eval (.tmp 2) = .pointer (some ⟨q2, 0, none⟩) := p1.at hs (by decide)
  replace hs := p1.st hs
  refine q_val rfl rfl ?_
  refine g_box rfl ((p1.ne rfl).trans s1) rfl ?_
  intro q4 w5 N_q4
  have n_q2_q4 := N_q4.ne ⟨lt_of_block h_q2⟩
  have n_q4_q2 := n_q2_q4.symm
  have g_q4 : GeB w.heap.size q4 := ⟨Nat.le_trans hB.size N_q4.lo⟩
  replace h_q2 := keep_below h_q2 N_q4.below
  replace hB := below_new hB hB.size N_q4
  have h_q4 := N_q4.here
  clear N_q4
  intro a2 p2
  have s3 : a2.eval (.tmp 3) = .pointer (some ⟨q4, 0, none⟩) := p2.at hs (by decide)
  replace hs := p2.st hs
  refine q_val rfl rfl ?_
  refine g_alloc rfl Try.zeroValue50 rfl ?_
  intro q6 w7 N_q6
  have n_q2_q6 := N_q6.ne ⟨lt_of_block h_q2⟩
  have n_q6_q2 := n_q2_q6.symm
  have n_q4_q6 := N_q6.ne ⟨lt_of_block h_q4⟩
  have n_q6_q4 := n_q4_q6.symm
  have g_q6 : GeB w.heap.size q6 := ⟨Nat.le_trans hB.size N_q6.lo⟩
  replace h_q2 := keep_below h_q2 N_q6.below
  replace h_q4 := keep_below h_q4 N_q6.below
  replace hB := below_new hB hB.size N_q6
  have h_q6 := N_q6.here
  clear N_q6
  intro a3 p3
  have s4 : a3.eval (.tmp 4) = .pointer (some ⟨q6, 0, none⟩) := p3.at hs (by decide)
  replace hs := p3.st hs
  refine wpList_nil ?_
  replace s2 : a3.eval (.tmp 2) = .pointer (some ⟨q2, 0, none⟩) := ((p3.ne rfl).trans (p2.ne rfl)).trans s2
  replace s3 : a3.eval (.tmp 3) = .pointer (some ⟨q4, 0, none⟩) := (p3.ne rfl).trans s3
  refine hK1 _ _ ?_
  clear hK1
  refine wp_seq_k fun K8 hK8 => ?_
  refine wp_region_lit ?_
  refine q_val rfl rfl ?_
  refine g_loadB rfl s2 Try.isAgg50 Try.sizeOf50 rfl h_q2 ?_
  intro a4 p4
  have s9 : a4.eval (.tmp 9) = .agg #[.int .i64 room, .slice A zs.length cp, .slice B ds.length dp] := p4.at hs (by decide)
  replace hs := p4.st hs
  refine q_val rfl rfl ?_
  refine g_call rfl rfl Try.call74 (arr1 s9) ?_
  refine (copyRecorder_any _ _ _ _ _ _ _ zs ds _ rfl (by omega) hnn_z (hr_z.below hB) rfl (by omega) hnn_d (hr_d.below hB)).mono ?_
  rintro e w10 ⟨A9, c9, B9, d9, rfl, o_z9, o_y9, hb9⟩
  refine ⟨_, rfl, ?_⟩
  have m_z9_y9 := own_ne_type o_z9 o_y9 (by decide)
  have m_y9_z9 := ne_row_symm m_z9_y9
  have d_z9_q2 := own_ne_box o_z9 (lt_of_block h_q2)
  have d_z9_q4 := own_ne_box o_z9 (lt_of_block h_q4)
  have d_z9_q6 := own_ne_box o_z9 (lt_of_block h_q6)
  have g_z9 : ∀ b, (A9 : Option Addr).map (·.block) = some b → w.heap.size ≤ b := fun b h => Nat.le_trans hB.size (own_row o_z9 b h).1
  replace o_z9 := own_base (base := w.heap.size) o_z9 hB.size
  have d_y9_q2 := own_ne_box o_y9 (lt_of_block h_q2)
  have d_y9_q4 := own_ne_box o_y9 (lt_of_block h_q4)
  have d_y9_q6 := own_ne_box o_y9 (lt_of_block h_q6)
  have g_y9 : ∀ b, (B9 : Option Addr).map (·.block) = some b → w.heap.size ≤ b := fun b h => Nat.le_trans hB.size (own_row o_y9 b h).1
  replace o_y9 := own_base (base := w.heap.size) o_y9 hB.size
  replace h_q2 := keep_below h_q2 hb9
  replace h_q4 := keep_below h_q4 hb9
  replace h_q6 := keep_below h_q6 hb9
  replace hB := hB.trans (hb9.mono hB.size)
  clear hb9
  intro a5 p5
  have s10 : a5.eval (.tmp 10) = .agg #[.int .i64 room, .slice A9 zs.length c9, .slice B9 ds.length d9] := p5.at hs (by decide)
  replace hs := p5.st hs
  refine q_val rfl rfl ?_
  refine g_alloc rfl Try.zeroValue50 rfl ?_
  intro q11 w12 N_q11
  have n_q2_q11 := N_q11.ne ⟨lt_of_block h_q2⟩
  have n_q11_q2 := n_q2_q11.symm
  have n_q4_q11 := N_q11.ne ⟨lt_of_block h_q4⟩
  have n_q11_q4 := n_q4_q11.symm
  have n_q6_q11 := N_q11.ne ⟨lt_of_block h_q6⟩
  have n_q11_q6 := n_q6_q11.symm
  have d_z9_q11 := own_ne_new o_z9 N_q11
  have d_y9_q11 := own_ne_new o_y9 N_q11
  have g_q11 : GeB w.heap.size q11 := ⟨Nat.le_trans hB.size N_q11.lo⟩
  replace h_q2 := keep_below h_q2 N_q11.below
  replace h_q4 := keep_below h_q4 N_q11.below
  replace h_q6 := keep_below h_q6 N_q11.below
  replace o_z9 := own_below o_z9 N_q11.below
  replace o_y9 := own_below o_y9 N_q11.below
  replace hB := below_new hB hB.size N_q11
  have h_q11 := N_q11.here
  clear N_q11
  intro a6 p6
  have s5 : a6.eval (.tmp 5) = .pointer (some ⟨q11, 0, none⟩) := p6.at hs (by decide)
  replace hs := p6.st hs
  refine q_eff rfl rfl ?_
  refine g_storeB rfl s5 ((p6.ne rfl).trans s10) Try.sizeOf50 rfl rfl h_q11 rfl ?_
  intro w13 W_w13
  replace h_q2 := keep_wrote h_q2 W_w13 n_q11_q2
  replace h_q4 := keep_wrote h_q4 W_w13 n_q11_q4
  replace h_q6 := keep_wrote h_q6 W_w13 n_q11_q6
  replace h_q11 := W_w13.here
  replace o_z9 := own_wrote o_z9 W_w13 d_z9_q11
  replace o_y9 := own_wrote o_y9 W_w13 d_y9_q11
  replace hB := below_wrote hB hB.size W_w13 g_q11.le
  clear W_w13
  refine wpList_nil ?_
  replace s2 : a6.eval (.tmp 2) = .pointer (some ⟨q2, 0, none⟩) := ((p6.ne rfl).trans ((p5.ne rfl).trans (p4.ne rfl))).trans s2
  replace s3 : a6.eval (.tmp 3) = .pointer (some ⟨q4, 0, none⟩) := ((p6.ne rfl).trans ((p5.ne rfl).trans (p4.ne rfl))).trans s3
  replace s4 : a6.eval (.tmp 4) = .pointer (some ⟨q6, 0, none⟩) := ((p6.ne rfl).trans ((p5.ne rfl).trans (p4.ne rfl))).trans s4
  refine hK8 _ _ ?_
  clear hK8
  refine wp_seq_k fun K14 hK14 => ?_
  refine wp_region_lit ?_
  refine q_val rfl rfl ?_
  refine g_field (r := 1) rfl s2 Try.underlying50 rfl (fun w => Try.sizeOf47 w) rfl rfl ?_
  intro a7 p7
  have s11 : a7.eval (.tmp 11) = .pointer (some ⟨q2, 1, none⟩) := p7.at hs (by decide)
  replace hs := p7.st hs
  refine q_val rfl rfl ?_
  refine g_load rfl s11 Try.isAgg47 (box_cell h_q2 rfl) ?_
  intro a8 p8
  have s12 : a8.eval (.tmp 12) = .slice A zs.length cp := p8.at hs (by decide)
  replace hs := p8.st hs
  refine q_val rfl rfl ?_
  refine g_len (e := _) rfl Try.underlying47 s12 ?_
  intro a9 p9
  have s13 : a9.eval (.tmp 13) = .int .i64 ((zs.length : Nat) : Int) := p9.at hs (by decide)
  replace hs := p9.st hs
  refine q_val rfl rfl ?_
  refine g_assign rfl s13 ?_
  intro a10 p10
  have s6 : a10.eval (.tmp 6) = .int .i64 ((zs.length : Nat) : Int) := p10.at hs (by decide)
  replace hs := p10.st hs
  refine wpList_nil ?_
  replace s2 : a10.eval (.tmp 2) = .pointer (some ⟨q2, 0, none⟩) := ((p10.ne rfl).trans ((p9.ne rfl).trans ((p8.ne rfl).trans (p7.ne rfl)))).trans s2
  replace s3 : a10.eval (.tmp 3) = .pointer (some ⟨q4, 0, none⟩) := ((p10.ne rfl).trans ((p9.ne rfl).trans ((p8.ne rfl).trans (p7.ne rfl)))).trans s3
  replace s4 : a10.eval (.tmp 4) = .pointer (some ⟨q6, 0, none⟩) := ((p10.ne rfl).trans ((p9.ne rfl).trans ((p8.ne rfl).trans (p7.ne rfl)))).trans s4
  replace s5 : a10.eval (.tmp 5) = .pointer (some ⟨q11, 0, none⟩) := ((p10.ne rfl).trans ((p9.ne rfl).trans ((p8.ne rfl).trans (p7.ne rfl)))).trans s5
  refine hK14 _ _ ?_
  clear hK14
  refine wp_seq_k fun K15 hK15 => ?_
  have jK15 : ∀ (a : Act) (wr : World), (St 109 a) ∧ (a.eval (.tmp 2) = .pointer (some ⟨q2, 0, none⟩)) ∧ (a.eval (.tmp 3) = .pointer (some ⟨q4, 0, none⟩)) ∧ (a.eval (.tmp 4) = .pointer (some ⟨q6, 0, none⟩)) ∧ (a.eval (.tmp 5) = .pointer (some ⟨q11, 0, none⟩)) ∧ (Below w.heap.size w wr) ∧ (wr.heap[q2]? = some (.cells #[.int .i64 room, .slice A zs.length cp, .slice B ds.length dp] 50 (0, 0))) ∧ (wr.heap[q4]? = some (.cells #[.int .i64 x.f0, .int .i64 x.f1, .int .i64 x.f2, .string ⟨(x.f3).toArray⟩] 26 (0, 0))) ∧ (wr.heap[q6]? = some (.cells #[.int .i64 0, .slice none 0 0, .slice none 0 0] 50 (0, 0))) ∧ (wr.heap[q11]? = some (.cells #[.int .i64 room, .slice A9 zs.length c9, .slice B9 ds.length d9] 50 (0, 0))) ∧ (wr.ownsRow w.heap.size 26 4 (.slice A9 zs.length c9) zs.length (zs.flatMap cRecord)) ∧ (wr.ownsRow w.heap.size 3 1 (.slice B9 ds.length d9) ds.length (ds.flatMap cI)) ∧ (rcOk room zs ds = true) ∧ (recOk x.f0 x.f1 x.f2 x.f3 = true) ∧ (kOk room zs ds x = true) → K15 a wr := by
    rintro a11 w16 ⟨hs, s2, s3, s4, s5, hB, h_q2, h_q4, h_q6, h_q11, o_z9, o_y9, hok, hrok, hkok⟩
    refine hK15 _ _ ?_
    clear hK15
    refine wp_seq_k fun K17 hK17 => ?_
    obtain ⟨hrm, hdl, hzl, hus⟩ := rec_len hok
    have hxl := (recOk_parts hrok).2.2.2
    have hsz := recSz_pos x
    have hrs : ((recSz x : Nat) : Int) = 6 + ((x.f3.length : Nat) : Int) := by unfold recSz; omega
    refine wp_region_lit ?_
    refine q_val rfl rfl ?_
    refine g_field (r := 3) rfl s3 Try.underlying26 rfl (fun w => Try.sizeOf9 w) rfl rfl ?_
    intro a12 p12
    have s39 : a12.eval (.tmp 39) = .pointer (some ⟨q4, 3, none⟩) := p12.at hs (by decide)
    replace hs := p12.st hs
    refine q_val rfl rfl ?_
    refine g_load rfl s39 Try.isAgg9 (box_cell h_q4 rfl) ?_
    intro a13 p13
    have s40 : a13.eval (.tmp 40) = .string ⟨(x.f3).toArray⟩ := p13.at hs (by decide)
    replace hs := p13.st hs
    refine q_val rfl rfl ?_
    refine g_lenS rfl Try.underlying9 s40 ?_
    intro a14 p14
    have s41 : a14.eval (.tmp 41) = .int .i64 (((x.f3).length : Nat) : Int) := p14.at hs (by decide)
    replace hs := p14.st hs
    refine q_val rfl rfl ?_
    refine g_add (r := 6 + (((x.f3).length : Nat) : Int)) rfl rfl s41 (by omega) (by omega) ?_
    intro a15 p15
    have s42 : a15.eval (.tmp 42) = .int .i64 (6 + (((x.f3).length : Nat) : Int)) := p15.at hs (by decide)
    replace hs := p15.st hs
    refine q_val rfl rfl ?_
    refine g_assign rfl s42 ?_
    intro a16 p16
    have s7 : a16.eval (.tmp 7) = .int .i64 (6 + (((x.f3).length : Nat) : Int)) := p16.at hs (by decide)
    replace hs := p16.st hs
    refine wpList_nil ?_
    replace s2 : a16.eval (.tmp 2) = .pointer (some ⟨q2, 0, none⟩) := ((p16.ne rfl).trans ((p15.ne rfl).trans ((p14.ne rfl).trans ((p13.ne rfl).trans (p12.ne rfl))))).trans s2
    replace s3 : a16.eval (.tmp 3) = .pointer (some ⟨q4, 0, none⟩) := ((p16.ne rfl).trans ((p15.ne rfl).trans ((p14.ne rfl).trans ((p13.ne rfl).trans (p12.ne rfl))))).trans s3
    replace s4 : a16.eval (.tmp 4) = .pointer (some ⟨q6, 0, none⟩) := ((p16.ne rfl).trans ((p15.ne rfl).trans ((p14.ne rfl).trans ((p13.ne rfl).trans (p12.ne rfl))))).trans s4
    replace s5 : a16.eval (.tmp 5) = .pointer (some ⟨q11, 0, none⟩) := ((p16.ne rfl).trans ((p15.ne rfl).trans ((p14.ne rfl).trans ((p13.ne rfl).trans (p12.ne rfl))))).trans s5
    refine hK17 _ _ ?_
    clear hK17
    refine wp_seq_k fun K18 hK18 => ?_
    refine wp_block ?_
    by_cases hfit : ((recSz x : Nat) : Int) ≤ room - ((usedN zs : Nat) : Int) + ((lesS x.f1 zs : Nat) : Int)
    · refine wp_loop (fun a wr => ∃ (zs2 : List ERecord) (n2 : Nat) (ds2 : List Int) (m2 : Nat) (A2 : Option Addr) (c2 : Nat) (B2 : Option Addr) (d2 : Nat), (St 109 a) ∧ (a.eval (.tmp 2) = .pointer (some ⟨q2, 0, none⟩)) ∧ (a.eval (.tmp 3) = .pointer (some ⟨q4, 0, none⟩)) ∧ (a.eval (.tmp 4) = .pointer (some ⟨q6, 0, none⟩)) ∧ (a.eval (.tmp 5) = .pointer (some ⟨q11, 0, none⟩)) ∧ (a.eval (.tmp 7) = .int .i64 (6 + (((x.f3).length : Nat) : Int))) ∧ (Below w.heap.size w wr) ∧ (wr.heap[q2]? = some (.cells #[.int .i64 room, .slice A zs.length cp, .slice B ds.length dp] 50 (0, 0))) ∧ (wr.heap[q4]? = some (.cells #[.int .i64 x.f0, .int .i64 x.f1, .int .i64 x.f2, .string ⟨(x.f3).toArray⟩] 26 (0, 0))) ∧ (wr.heap[q6]? = some (.cells #[.int .i64 0, .slice none 0 0, .slice none 0 0] 50 (0, 0))) ∧ (wr.heap[q11]? = some (.cells #[.int .i64 room, .slice A2 n2 c2, .slice B2 m2 d2] 50 (0, 0))) ∧ (wr.ownsRow w.heap.size 26 4 (.slice A2 n2 c2) n2 (zs2.flatMap cRecord)) ∧ (wr.ownsRow w.heap.size 3 1 (.slice B2 m2 d2) m2 (ds2.flatMap cI)) ∧ ((A2 : Option Addr).map (·.block) ≠ some q2) ∧ ((A2 : Option Addr).map (·.block) ≠ some q4) ∧ ((A2 : Option Addr).map (·.block) ≠ some q6) ∧ ((A2 : Option Addr).map (·.block) ≠ some q11) ∧ (∀ b, (B2 : Option Addr).map (·.block) = some b → (A2 : Option Addr).map (·.block) ≠ some b) ∧ (∀ b, (A2 : Option Addr).map (·.block) = some b → w.heap.size ≤ b) ∧ ((B2 : Option Addr).map (·.block) ≠ some q2) ∧ ((B2 : Option Addr).map (·.block) ≠ some q4) ∧ ((B2 : Option Addr).map (·.block) ≠ some q6) ∧ ((B2 : Option Addr).map (·.block) ≠ some q11) ∧ (∀ b, (A2 : Option Addr).map (·.block) = some b → (B2 : Option Addr).map (·.block) ≠ some b) ∧ (∀ b, (B2 : Option Addr).map (·.block) = some b → w.heap.size ≤ b) ∧ (zs2.length = n2) ∧ (ds2.length = m2) ∧ (evict room (recSz x) zs.length zs ds = evict room (recSz x) zs2.length zs2 ds2) ∧ (((recSz x : Nat) : Int) ≤ room - ((usedN zs2 : Nat) : Int) + ((lesS x.f1 zs2 : Nat) : Int)) ∧ (∀ z ∈ zs2, Txt z.f3 ∧ z.f3.length ≤ 34) ∧ (n2 ≤ 700) ∧ (m2 + n2 ≤ 70000) ∧ (((usedN zs2 : Nat) : Int) ≤ room)) (fun _ wr => lenAt wr q11 1) (⟨zs, zs.length, ds, ds.length, _, _, _, _, hs, s2, s3, s4, s5, s7, hB, h_q2, h_q4, h_q6, h_q11, o_z9, o_y9, d_z9_q2, d_z9_q4, d_z9_q6, d_z9_q11, m_y9_z9, g_z9, d_y9_q2, d_y9_q4, d_y9_q6, d_y9_q11, m_z9_y9, g_y9, rfl, rfl, rfl, hfit, (fun z hz => ⟨hT z hz, rec_small hok hz⟩), (by omega), (by omega), hus⟩) ?_
      intro a17 w20 hI
      obtain ⟨zs2, n2, ds2, m2, A2, c2, B2, d2, hs, s2, s3, s4, s5, s7, hB, h_q2, h_q4, h_q6, h_q11, o_z9, o_y9, d_z9_q2, d_z9_q4, d_z9_q6, d_z9_q11, m_y9_z9, g_z9, d_y9_q2, d_y9_q4, d_y9_q6, d_y9_q11, m_z9_y9, g_y9, hn2, hm2, hev, hf2, hT2, hlz, hld, hus2⟩ := hI
      have mu0 := h_q11
      refine wp_seq_k fun K21 hK21 => ?_
      refine wp_seq_k fun K22 hK22 => ?_
      refine wp_drawn (n := 109) [] [] [] (fun k_ v_ _wx => match k_ with | 0 => v_ = .pointer (some ⟨q11, 1, none⟩) | 1 => v_ = .slice A2 n2 c2 | 2 => v_ = .int .i64 ((usedN zs2 : Nat) : Int) | 3 => v_ = .int .i64 (6 + (((x.f3).length : Nat) : Int)) | 4 => v_ = .int .i64 (((usedN zs2 : Nat) : Int) + (6 + (((x.f3).length : Nat) : Int))) | 5 => v_ = .pointer (some ⟨q2, 0, none⟩) | 6 => v_ = .int .i64 room | 7 => v_ = .bool (decide (room < ((usedN zs2 : Nat) : Int) + (6 + (((x.f3).length : Nat) : Int)))) | _ => True) (by kernel_rfl) (by kernel_rfl) (by kernel_rfl) (by kernel_rfl) hs.size ?_ ?_ ?_
      · intro i v wa wb hb hr
        rcases i with _ | _ | _ | _ | _ | _ | _ | _ | i
        · exact hr
        · exact hr
        · exact hr
        · exact hr
        · exact hr
        · exact hr
        · exact hr
        · exact hr
        · trivial
      · refine d_step rfl rfl ?_ (d_step rfl rfl ?_ (d_step rfl rfl ?_ (d_step rfl rfl ?_ (d_step rfl rfl ?_ (d_step rfl rfl ?_ (d_step rfl rfl ?_ (d_step rfl rfl ?_ (d_nil))))))))
        · intro xv_ wx ρ hρ hwx hd K hK
          have e5 : ρ (.tmp 5) = .pointer (some ⟨q11, 0, none⟩) := (hρ.inn 5 rfl).trans s5
          refine g_field (r := 1) rfl e5 Try.underlying50 rfl (fun w => Try.sizeOf47 w) rfl rfl ?_
          exact hK _ _ (Below.refl _ _) rfl
        · intro xv_ wx ρ hρ hwx hd K hK
          obtain r0 : xv_ 0 = .pointer (some ⟨q11, 1, none⟩) := hd 0 rfl
          have e43 : ρ (.tmp 43) = .pointer (some ⟨q11, 1, none⟩) := (hρ.out 0 43 rfl (by rw [hs.size]; decide) rfl).trans r0
          have h_q11 := keep_below h_q11 hwx
          refine g_load rfl e43 Try.isAgg47 (box_cell h_q11 rfl) ?_
          exact hK _ _ (Below.refl _ _) rfl
        · intro xv_ wx ρ hρ hwx hd K hK
          obtain r1 : xv_ 1 = .slice A2 n2 c2 := hd 1 rfl
          have e44 : ρ (.tmp 44) = .slice A2 n2 c2 := (hρ.out 1 44 rfl (by rw [hs.size]; decide) rfl).trans r1
          refine g_call rfl (hρ.fn _) Try.call70 (arr1 e44) ?_
          refine (l05Used_any _ _ _ zs2 _ hn2 (by omega) (fun z hz => (hT2 z hz).1) (fun k _ => Nat.le_trans (Nat.le_trans (usedN_le ‹_›) (by omega : usedN zs2 ≤ 4000)) (by decide)) ((Rd.of_own o_z9).below hwx)).mono ?_
          rintro e w' ⟨rfl, rfl⟩
          exact ⟨_, rfl, hK _ _ (Below.refl _ _) rfl⟩
        · intro xv_ wx ρ hρ hwx hd K hK
          have e7 : ρ (.tmp 7) = .int .i64 (6 + (((x.f3).length : Nat) : Int)) := (hρ.inn 7 rfl).trans s7
          refine g_move rfl e7 ?_
          exact hK _ _ (Below.refl _ _) rfl
        · intro xv_ wx ρ hρ hwx hd K hK
          obtain r2 : xv_ 2 = .int .i64 ((usedN zs2 : Nat) : Int) := hd 2 rfl
          have e45 : ρ (.tmp 45) = .int .i64 ((usedN zs2 : Nat) : Int) := (hρ.out 2 45 rfl (by rw [hs.size]; decide) rfl).trans r2
          obtain r3 : xv_ 3 = .int .i64 (6 + (((x.f3).length : Nat) : Int)) := hd 3 rfl
          have e46 : ρ (.tmp 46) = .int .i64 (6 + (((x.f3).length : Nat) : Int)) := (hρ.out 3 46 rfl (by rw [hs.size]; decide) rfl).trans r3
          refine g_add (r := ((usedN zs2 : Nat) : Int) + (6 + (((x.f3).length : Nat) : Int))) rfl e45 e46 (by omega) (by omega) ?_
          exact hK _ _ (Below.refl _ _) rfl
        · intro xv_ wx ρ hρ hwx hd K hK
          have e2 : ρ (.tmp 2) = .pointer (some ⟨q2, 0, none⟩) := (hρ.inn 2 rfl).trans s2
          refine g_field (r := 0) rfl e2 Try.underlying50 rfl (fun w => Try.sizeOf3 w) rfl rfl ?_
          exact hK _ _ (Below.refl _ _) rfl
        · intro xv_ wx ρ hρ hwx hd K hK
          obtain r5 : xv_ 5 = .pointer (some ⟨q2, 0, none⟩) := hd 5 rfl
          have e48 : ρ (.tmp 48) = .pointer (some ⟨q2, 0, none⟩) := (hρ.out 5 48 rfl (by rw [hs.size]; decide) rfl).trans r5
          have h_q2 := keep_below h_q2 hwx
          refine g_load rfl e48 Try.isAgg3 (box_cell h_q2 rfl) ?_
          exact hK _ _ (Below.refl _ _) rfl
        · intro xv_ wx ρ hρ hwx hd K hK
          obtain r4 : xv_ 4 = .int .i64 (((usedN zs2 : Nat) : Int) + (6 + (((x.f3).length : Nat) : Int))) := hd 4 rfl
          have e47 : ρ (.tmp 47) = .int .i64 (((usedN zs2 : Nat) : Int) + (6 + (((x.f3).length : Nat) : Int))) := (hρ.out 4 47 rfl (by rw [hs.size]; decide) rfl).trans r4
          obtain r6 : xv_ 6 = .int .i64 room := hd 6 rfl
          have e49 : ρ (.tmp 49) = .int .i64 room := (hρ.out 6 49 rfl (by rw [hs.size]; decide) rfl).trans r6
          refine g_gtr rfl e47 e49 ?_
          exact hK _ _ (Below.refl _ _) rfl
      · intro x0_ w23 hb_w23 hr0
        obtain r0 : x0_ 0 = .pointer (some ⟨q11, 1, none⟩) := hr0 0 (by decide) rfl rfl
        obtain r1 : x0_ 1 = .slice A2 n2 c2 := hr0 1 (by decide) rfl rfl
        obtain r2 : x0_ 2 = .int .i64 ((usedN zs2 : Nat) : Int) := hr0 2 (by decide) rfl rfl
        obtain r3 : x0_ 3 = .int .i64 (6 + (((x.f3).length : Nat) : Int)) := hr0 3 (by decide) rfl rfl
        obtain r4 : x0_ 4 = .int .i64 (((usedN zs2 : Nat) : Int) + (6 + (((x.f3).length : Nat) : Int))) := hr0 4 (by decide) rfl rfl
        obtain r5 : x0_ 5 = .pointer (some ⟨q2, 0, none⟩) := hr0 5 (by decide) rfl rfl
        obtain r6 : x0_ 6 = .int .i64 room := hr0 6 (by decide) rfl rfl
        obtain r7 : x0_ 7 = .bool (decide (room < ((usedN zs2 : Nat) : Int) + (6 + (((x.f3).length : Nat) : Int)))) := hr0 7 (by decide) rfl rfl
        clear hr0
        replace h_q2 := keep_below h_q2 hb_w23
        replace h_q4 := keep_below h_q4 hb_w23
        replace h_q6 := keep_below h_q6 hb_w23
        replace h_q11 := keep_below h_q11 hb_w23
        replace o_z9 := own_below o_z9 hb_w23
        replace o_y9 := own_below o_y9 hb_w23
        replace hB := hB.trans (hb_w23.mono hB.size)
        clear hb_w23
        intro xv_ a18 hρ hsz hdf qx_ ql_ qk_ qlk_
        replace s2 : a18.eval (.tmp 2) = .pointer (some ⟨q2, 0, none⟩) := (hρ.inn 2 rfl).trans s2
        replace s3 : a18.eval (.tmp 3) = .pointer (some ⟨q4, 0, none⟩) := (hρ.inn 3 rfl).trans s3
        replace s4 : a18.eval (.tmp 4) = .pointer (some ⟨q6, 0, none⟩) := (hρ.inn 4 rfl).trans s4
        replace s5 : a18.eval (.tmp 5) = .pointer (some ⟨q11, 0, none⟩) := (hρ.inn 5 rfl).trans s5
        replace s7 : a18.eval (.tmp 7) = .int .i64 (6 + (((x.f3).length : Nat) : Int)) := (hρ.inn 7 rfl).trans s7
        have s50 : a18.eval (.tmp 50) = .bool (decide (room < ((usedN zs2 : Nat) : Int) + (6 + (((x.f3).length : Nat) : Int)))) := (hρ.out 7 50 rfl (by rw [hs.size]; decide)).trans ((qx_ 7 (by decide) rfl rfl).trans r7)
        replace hs : St 109 a18 := ⟨hsz.trans hs.size, hdf.trans hs.nodef⟩
        clear hρ hsz hdf qx_ ql_ qk_ qlk_
        refine hK22 _ _ ?_
        clear hK22
        by_cases hgo : room < ((usedN zs2 : Nat) : Int) + (6 + (((x.f3).length : Nat) : Int))
        · replace s50 := s50.trans (congrArg Value.bool (decide_eq_true hgo))
          replace s50 : a18.eval (.tmp 50) = .bool true := s50
          refine c_true s50 ?_
          refine wp_skip ?_
          refine hK21 _ _ ?_
          clear hK21
          refine wp_block ?_
          refine wp_seq_k fun K24 hK24 => ?_
          have hlp : 0 < lesS x.f1 zs2 := by omega
          obtain ⟨hkl0, hkp0⟩ := least_lesser hlp
          obtain ⟨kk, hkk2⟩ : ∃ kk, leastTo zs2 zs2.length = kk := ⟨_, rfl⟩
          have hkl : kk < zs2.length := hkk2 ▸ hkl0
          have hkp : zs2[kk].f1 < x.f1 := by simpa only [hkk2] using hkp0
          clear hkl0 hkp0
          have hlv : lbTo zs2 x.f1 n2 = ((kk : Nat) : Int) := by rw [← hn2, lb_yes hlp, hkk2]
          refine wp_region_lit ?_
          refine q_val rfl rfl ?_
          refine g_field (r := 1) rfl s5 Try.underlying50 rfl (fun w => Try.sizeOf47 w) rfl rfl ?_
          intro a19 p19
          have s51 : a19.eval (.tmp 51) = .pointer (some ⟨q11, 1, none⟩) := p19.at hs (by decide)
          replace hs := p19.st hs
          refine q_val rfl rfl ?_
          refine g_load rfl s51 Try.isAgg47 (box_cell h_q11 rfl) ?_
          intro a20 p20
          have s52 : a20.eval (.tmp 52) = .slice A2 n2 c2 := p20.at hs (by decide)
          replace hs := p20.st hs
          refine q_val rfl rfl ?_
          refine g_field (r := 1) rfl (((p20.ne rfl).trans (p19.ne rfl)).trans s3) Try.underlying26 rfl (fun w => Try.sizeOf3 w) rfl rfl ?_
          intro a21 p21
          have s53 : a21.eval (.tmp 53) = .pointer (some ⟨q4, 1, none⟩) := p21.at hs (by decide)
          replace hs := p21.st hs
          refine q_val rfl rfl ?_
          refine g_load rfl s53 Try.isAgg3 (box_cell h_q4 rfl) ?_
          intro a22 p22
          have s54 : a22.eval (.tmp 54) = .int .i64 x.f1 := p22.at hs (by decide)
          replace hs := p22.st hs
          refine q_val rfl rfl ?_
          refine g_call rfl rfl Try.call78 (arr2 (((p22.ne rfl).trans (p21.ne rfl)).trans s52) s54) ?_
          refine (l05Least_at (v := ((kk : Nat) : Int)) _ hn2 (by omega) hlv (Rd.of_own o_z9)).mono ?_
          rintro e w26 ⟨rfl, hb25⟩
          refine ⟨_, rfl, ?_⟩
          replace h_q2 := keep_below h_q2 hb25
          replace h_q4 := keep_below h_q4 hb25
          replace h_q6 := keep_below h_q6 hb25
          replace h_q11 := keep_below h_q11 hb25
          replace o_z9 := own_below o_z9 hb25
          replace o_y9 := own_below o_y9 hb25
          replace hB := hB.trans (hb25.mono hB.size)
          clear hb25
          intro a23 p23
          have s55 : a23.eval (.tmp 55) = .int .i64 ((kk : Nat) : Int) := p23.at hs (by decide)
          replace hs := p23.st hs
          refine q_val rfl rfl ?_
          refine g_assign rfl s55 ?_
          intro a24 p24
          have s8 : a24.eval (.tmp 8) = .int .i64 ((kk : Nat) : Int) := p24.at hs (by decide)
          replace hs := p24.st hs
          refine wpList_nil ?_
          replace s2 : a24.eval (.tmp 2) = .pointer (some ⟨q2, 0, none⟩) := ((p24.ne rfl).trans ((p23.ne rfl).trans ((p22.ne rfl).trans ((p21.ne rfl).trans ((p20.ne rfl).trans (p19.ne rfl)))))).trans s2
          replace s3 : a24.eval (.tmp 3) = .pointer (some ⟨q4, 0, none⟩) := ((p24.ne rfl).trans ((p23.ne rfl).trans ((p22.ne rfl).trans ((p21.ne rfl).trans ((p20.ne rfl).trans (p19.ne rfl)))))).trans s3
          replace s4 : a24.eval (.tmp 4) = .pointer (some ⟨q6, 0, none⟩) := ((p24.ne rfl).trans ((p23.ne rfl).trans ((p22.ne rfl).trans ((p21.ne rfl).trans ((p20.ne rfl).trans (p19.ne rfl)))))).trans s4
          replace s5 : a24.eval (.tmp 5) = .pointer (some ⟨q11, 0, none⟩) := ((p24.ne rfl).trans ((p23.ne rfl).trans ((p22.ne rfl).trans ((p21.ne rfl).trans ((p20.ne rfl).trans (p19.ne rfl)))))).trans s5
          replace s7 : a24.eval (.tmp 7) = .int .i64 (6 + (((x.f3).length : Nat) : Int)) := ((p24.ne rfl).trans ((p23.ne rfl).trans ((p22.ne rfl).trans ((p21.ne rfl).trans ((p20.ne rfl).trans (p19.ne rfl)))))).trans s7
          replace s50 : a24.eval (.tmp 50) = .bool true := ((p24.ne rfl).trans ((p23.ne rfl).trans ((p22.ne rfl).trans ((p21.ne rfl).trans ((p20.ne rfl).trans (p19.ne rfl)))))).trans s50
          refine hK24 _ _ ?_
          clear hK24
          refine wp_seq_k fun K27 hK27 => ?_
          refine wp_seq_k fun K28 hK28 => ?_
          refine wp_region_lit ?_
          refine q_val rfl rfl ?_
          refine g_move rfl s8 ?_
          intro a25 p25
          have s56 : a25.eval (.tmp 56) = .int .i64 ((kk : Nat) : Int) := p25.at hs (by decide)
          replace hs := p25.st hs
          refine q_val rfl rfl ?_
          refine g_lss rfl s56 rfl ?_
          intro a26 p26
          have s57 : a26.eval (.tmp 57) = .bool false := (p26.at hs (by decide)).trans (congrArg Value.bool (decide_eq_false (by omega)))
          replace hs := p26.st hs
          refine wpList_nil ?_
          replace s2 : a26.eval (.tmp 2) = .pointer (some ⟨q2, 0, none⟩) := ((p26.ne rfl).trans (p25.ne rfl)).trans s2
          replace s3 : a26.eval (.tmp 3) = .pointer (some ⟨q4, 0, none⟩) := ((p26.ne rfl).trans (p25.ne rfl)).trans s3
          replace s4 : a26.eval (.tmp 4) = .pointer (some ⟨q6, 0, none⟩) := ((p26.ne rfl).trans (p25.ne rfl)).trans s4
          replace s5 : a26.eval (.tmp 5) = .pointer (some ⟨q11, 0, none⟩) := ((p26.ne rfl).trans (p25.ne rfl)).trans s5
          replace s7 : a26.eval (.tmp 7) = .int .i64 (6 + (((x.f3).length : Nat) : Int)) := ((p26.ne rfl).trans (p25.ne rfl)).trans s7
          replace s50 : a26.eval (.tmp 50) = .bool true := ((p26.ne rfl).trans (p25.ne rfl)).trans s50
          replace s8 : a26.eval (.tmp 8) = .int .i64 ((kk : Nat) : Int) := ((p26.ne rfl).trans (p25.ne rfl)).trans s8
          refine hK28 _ _ ?_
          clear hK28
          refine c_false s57 ?_
          refine wp_skip ?_
          refine hK27 _ _ ?_
          clear hK27
          refine wp_seq_k fun K29 hK29 => ?_
          obtain ⟨b30, o31, hA32, hl_hc33, hc33⟩ := Rd.get cRecord_len (Rd.of_own o_z9) (Eq.symm hn2) (i := kk) (by omega)
          refine wp_drawn (n := 109) [] [9, 10, 11] [] (fun k_ v_ wx => match k_ with | 0 => v_ = .pointer (some ⟨q11, 2, none⟩) | 1 => v_ = .slice B2 m2 d2 | 2 => v_ = .pointer (some ⟨q11, 1, none⟩) | 3 => v_ = .slice A2 n2 c2 | 4 => v_ = .int .i64 ((kk : Nat) : Int) | 5 => v_ = .pointer (some ⟨b30, o31 + kk * 4, none⟩) | 6 => v_ = .pointer (some ⟨b30, o31 + kk * 4, none⟩) | 7 => v_ = .int .i64 (zs2[kk].f0) | 8 => ∃ q34, v_ = .slice (some ⟨q34, 0, none⟩) 1 1 ∧ w26.heap.size ≤ q34 ∧ wx.heap[q34]? = some (.cells #[.int .i64 (zs2[kk].f0)] 3 (0, 0)) | _ => True) (by kernel_rfl) (by kernel_rfl) (by kernel_rfl) (by kernel_rfl) hs.size ?_ ?_ ?_
          · intro i v wa wb hb hr
            rcases i with _ | _ | _ | _ | _ | _ | _ | _ | _ | _ | _ | _ | i
            · exact hr
            · exact hr
            · exact hr
            · exact hr
            · exact hr
            · exact hr
            · exact hr
            · exact hr
            · obtain ⟨q34, hr, hg, hh⟩ := hr; exact ⟨q34, hr, hg, keep_below hh hb⟩
            · trivial
            · trivial
            · trivial
            · trivial
          · refine d_step rfl rfl ?_ (d_step rfl rfl ?_ (d_step rfl rfl ?_ (d_step rfl rfl ?_ (d_step rfl rfl ?_ (d_step rfl rfl ?_ (d_step rfl rfl ?_ (d_step rfl rfl ?_ (d_step rfl rfl ?_ (d_chain rfl (d_chain rfl (d_chain rfl (d_nil))))))))))))
            · intro xv_ wx ρ hρ hwx hd K hK
              have e5 : ρ (.tmp 5) = .pointer (some ⟨q11, 0, none⟩) := (hρ.inn 5 rfl).trans s5
              refine g_field (r := 2) rfl e5 Try.underlying50 rfl (fun w => Try.sizeOf48 w) rfl rfl ?_
              exact hK _ _ (Below.refl _ _) rfl
            · intro xv_ wx ρ hρ hwx hd K hK
              obtain r0 : xv_ 0 = .pointer (some ⟨q11, 2, none⟩) := hd 0 rfl
              have e73 : ρ (.tmp 73) = .pointer (some ⟨q11, 2, none⟩) := (hρ.out 0 73 rfl (by rw [hs.size]; decide) rfl).trans r0
              have h_q11 := keep_below h_q11 hwx
              refine g_load rfl e73 Try.isAgg48 (box_cell h_q11 rfl) ?_
              exact hK _ _ (Below.refl _ _) rfl
            · intro xv_ wx ρ hρ hwx hd K hK
              have e5 : ρ (.tmp 5) = .pointer (some ⟨q11, 0, none⟩) := (hρ.inn 5 rfl).trans s5
              refine g_field (r := 1) rfl e5 Try.underlying50 rfl (fun w => Try.sizeOf47 w) rfl rfl ?_
              exact hK _ _ (Below.refl _ _) rfl
            · intro xv_ wx ρ hρ hwx hd K hK
              obtain r2 : xv_ 2 = .pointer (some ⟨q11, 1, none⟩) := hd 2 rfl
              have e75 : ρ (.tmp 75) = .pointer (some ⟨q11, 1, none⟩) := (hρ.out 2 75 rfl (by rw [hs.size]; decide) rfl).trans r2
              have h_q11 := keep_below h_q11 hwx
              refine g_load rfl e75 Try.isAgg47 (box_cell h_q11 rfl) ?_
              exact hK _ _ (Below.refl _ _) rfl
            · intro xv_ wx ρ hρ hwx hd K hK
              have e8 : ρ (.tmp 8) = .int .i64 ((kk : Nat) : Int) := (hρ.inn 8 rfl).trans s8
              refine g_move rfl e8 ?_
              exact hK _ _ (Below.refl _ _) rfl
            · intro xv_ wx ρ hρ hwx hd K hK
              obtain r3 : xv_ 3 = .slice A2 n2 c2 := hd 3 rfl
              have e76 : ρ (.tmp 76) = .slice A2 n2 c2 := (hρ.out 3 76 rfl (by rw [hs.size]; decide) rfl).trans r3
              obtain r4 : xv_ 4 = .int .i64 ((kk : Nat) : Int) := hd 4 rfl
              have e77 : ρ (.tmp 77) = .int .i64 ((kk : Nat) : Int) := (hρ.out 4 77 rfl (by rw [hs.size]; decide) rfl).trans r4
              refine g_index (r := o31 + kk * 4) (k := kk) rfl (e76.trans (slice_at hA32)) e77 Try.underlying47 (fun w => Try.sizeOf26 w) (by omega) rfl ?_
              exact hK _ _ (Below.refl _ _) rfl
            · intro xv_ wx ρ hρ hwx hd K hK
              obtain r5 : xv_ 5 = .pointer (some ⟨b30, o31 + kk * 4, none⟩) := hd 5 rfl
              have e78 : ρ (.tmp 78) = .pointer (some ⟨b30, o31 + kk * 4, none⟩) := (hρ.out 5 78 rfl (by rw [hs.size]; decide) rfl).trans r5
              refine g_field (r := o31 + kk * 4) rfl e78 Try.underlying26 rfl (fun w => Try.sizeOf3 w) rfl rfl ?_
              exact hK _ _ (Below.refl _ _) rfl
            · intro xv_ wx ρ hρ hwx hd K hK
              obtain r6 : xv_ 6 = .pointer (some ⟨b30, o31 + kk * 4, none⟩) := hd 6 rfl
              have e79 : ρ (.tmp 79) = .pointer (some ⟨b30, o31 + kk * 4, none⟩) := (hρ.out 6 79 rfl (by rw [hs.size]; decide) rfl).trans r6
              have hc33 := elem_below hc33 hwx hl_hc33
              refine g_load rfl e79 Try.isAgg3 (by first | exact hc33 0 _ (by decide) rfl | (rw [Nat.add_assoc]; exact hc33 0 _ (by decide) rfl)) ?_
              exact hK _ _ (Below.refl _ _) rfl
            · intro xv_ wx ρ hρ hwx hd K hK
              obtain r7 : xv_ 7 = .int .i64 (zs2[kk].f0) := hd 7 rfl
              have e80 : ρ (.tmp 80) = .int .i64 (zs2[kk].f0) := (hρ.out 7 80 rfl (by rw [hs.size]; decide) rfl).trans r7
              refine g_bslice1 (cs := #[.int .i64 (zs2[kk].f0)]) rfl Try.underlying48 Try.sizeOf3 Try.zeroValue3 e80 (by kernel_rfl) rfl (by decide) ?_
              intro q w' N
              exact hK _ _ N.below ⟨q, rfl, Nat.le_trans hwx.size N.lo, N.here⟩
          · intro x0_ w35 hb_w35 hr0
            obtain r0 : x0_ 0 = .pointer (some ⟨q11, 2, none⟩) := hr0 0 (by decide) rfl rfl
            obtain r1 : x0_ 1 = .slice B2 m2 d2 := hr0 1 (by decide) rfl rfl
            obtain r2 : x0_ 2 = .pointer (some ⟨q11, 1, none⟩) := hr0 2 (by decide) rfl rfl
            obtain r3 : x0_ 3 = .slice A2 n2 c2 := hr0 3 (by decide) rfl rfl
            obtain r4 : x0_ 4 = .int .i64 ((kk : Nat) : Int) := hr0 4 (by decide) rfl rfl
            obtain r5 : x0_ 5 = .pointer (some ⟨b30, o31 + kk * 4, none⟩) := hr0 5 (by decide) rfl rfl
            obtain r6 : x0_ 6 = .pointer (some ⟨b30, o31 + kk * 4, none⟩) := hr0 6 (by decide) rfl rfl
            obtain r7 : x0_ 7 = .int .i64 (zs2[kk].f0) := hr0 7 (by decide) rfl rfl
            obtain ⟨q34, r8, g0_q34, h_q34⟩ : ∃ q34, x0_ 8 = .slice (some ⟨q34, 0, none⟩) 1 1 ∧ w26.heap.size ≤ q34 ∧ w35.heap[q34]? = some (.cells #[.int .i64 (zs2[kk].f0)] 3 (0, 0)) := hr0 8 (by decide) rfl rfl
            clear hr0
            have n_q2_q34 : NeB q2 q34 := ⟨fun e => by have := lt_of_block h_q2; omega⟩
            have n_q34_q2 := n_q2_q34.symm
            have n_q4_q34 : NeB q4 q34 := ⟨fun e => by have := lt_of_block h_q4; omega⟩
            have n_q34_q4 := n_q4_q34.symm
            have n_q6_q34 : NeB q6 q34 := ⟨fun e => by have := lt_of_block h_q6; omega⟩
            have n_q34_q6 := n_q6_q34.symm
            have n_q11_q34 : NeB q11 q34 := ⟨fun e => by have := lt_of_block h_q11; omega⟩
            have n_q34_q11 := n_q11_q34.symm
            have d_z9_q34 := own_ne o_z9 (.inr g0_q34)
            have d_y9_q34 := own_ne o_y9 (.inr g0_q34)
            have g_q34 : GeB w.heap.size q34 := ⟨Nat.le_trans hB.size g0_q34⟩
            clear g0_q34
            replace h_q2 := keep_below h_q2 hb_w35
            replace h_q4 := keep_below h_q4 hb_w35
            replace h_q6 := keep_below h_q6 hb_w35
            replace h_q11 := keep_below h_q11 hb_w35
            replace o_z9 := own_below o_z9 hb_w35
            replace o_y9 := own_below o_y9 hb_w35
            replace hB := hB.trans (hb_w35.mono hB.size)
            clear hb_w35
            intro op_ ho_ xv_ ρ hρ qx_ ql_ qk_
            obtain rfl := Option.some.inj ho_
            clear ho_
            have e74 : ρ (.tmp 74) = .slice B2 m2 d2 := (hρ.out 1 74 rfl (by rw [hs.size]; decide) rfl).trans ((qx_ 1 (by decide) rfl rfl).trans r1)
            have e81 : ρ (.tmp 81) = .slice (some ⟨q34, 0, none⟩) 1 1 := (hρ.out 8 81 rfl (by rw [hs.size]; decide) rfl).trans ((qx_ 8 (by decide) rfl rfl).trans r8)
            refine g_append (n' := m2 + 1) (ys := (ds2 ++ ([zs2[kk].f0])).flatMap cI) w.heap.size (.int .i64 0) 1 8 rfl e74 e81 Try.underlying48 infoI64 rfl (by decide) o_y9 (fun h => by cases h) (rd_box (xs := ([zs2[kk].f0]).flatMap cI) h_q34 rfl rfl) (flatI_one _) (by omega) hB.size (by decide) (by omega) (by first | rfl | simp [List.flatMap_append] | (simp [List.flatMap_append, cI]; done)) ?_
            intro A_r36 c_r36 w37 P_r36
            have d_r36_q2 := P_r36.ne d_y9_q2 (lt_of_block h_q2)
            have d_r36_q4 := P_r36.ne d_y9_q4 (lt_of_block h_q4)
            have d_r36_q6 := P_r36.ne d_y9_q6 (lt_of_block h_q6)
            have d_r36_q11 := P_r36.ne d_y9_q11 (lt_of_block h_q11)
            have d_r36_q34 := P_r36.ne d_y9_q34 (lt_of_block h_q34)
            have m_z9_r36 := P_r36.row m_z9_y9 o_z9
            have m_r36_z9 := ne_row_symm m_z9_r36
            have g_r36 := P_r36.ge g_y9 hB.size
            replace h_q2 := keep_grown h_q2 P_r36.grown d_y9_q2
            replace h_q4 := keep_grown h_q4 P_r36.grown d_y9_q4
            replace h_q6 := keep_grown h_q6 P_r36.grown d_y9_q6
            replace h_q11 := keep_grown h_q11 P_r36.grown d_y9_q11
            replace h_q34 := keep_grown h_q34 P_r36.grown d_y9_q34
            replace o_z9 := own_grown o_z9 P_r36.grown m_z9_y9
            replace hB := below_grown hB hB.size P_r36.grown g_y9
            have o_r36 := P_r36.own
            clear P_r36
            clear hρ qx_ ql_ qk_
            clear e74 e81
            intro op_ ho_ xv_ ρ hρ qx_ ql_ qk_
            obtain rfl := Option.some.inj ho_
            clear ho_
            have e5 : ρ (.tmp 5) = .pointer (some ⟨q11, 0, none⟩) := (hρ.inn 5 rfl).trans s5
            refine g_field (r := 2) rfl e5 Try.underlying50 rfl (fun w => Try.sizeOf48 w) rfl rfl ?_
            clear hρ qx_ ql_ qk_
            clear e5
            intro op_ ho_ xv_ ρ hρ qx_ ql_ qk_
            obtain rfl := Option.some.inj ho_
            clear ho_
            have e83 : ρ (.tmp 83) = .pointer (some ⟨q11, 2, none⟩) := (hρ.out 10 83 rfl (by rw [hs.size]; decide) rfl).trans (qk_ (10, _) (by simp))
            have e82 : ρ (.tmp 82) = .slice A_r36 (m2 + 1) c_r36 := (hρ.out 9 82 rfl (by rw [hs.size]; decide) rfl).trans (qk_ (9, _) (by simp))
            refine g_store (cs' := #[.int .i64 room, .slice A2 n2 c2, .slice A_r36 (m2 + 1) c_r36]) rfl e83 e82 Try.sizeOf48 rfl h_q11 (Nat.le_of_ble_eq_true rfl) rfl ?_
            intro w38 W_w38
            replace h_q2 := keep_wrote h_q2 W_w38 n_q11_q2
            replace h_q4 := keep_wrote h_q4 W_w38 n_q11_q4
            replace h_q6 := keep_wrote h_q6 W_w38 n_q11_q6
            replace h_q11 := W_w38.here
            replace h_q34 := keep_wrote h_q34 W_w38 n_q11_q34
            replace o_z9 := own_wrote o_z9 W_w38 d_z9_q11
            replace o_r36 := own_wrote o_r36 W_w38 d_r36_q11
            replace hB := below_wrote hB hB.size W_w38 g_q11.le
            clear W_w38
            clear e82 e83
            clear hρ qx_ ql_ qk_
            intro xv_ a27 hρ hsz hdf qx_ ql_ qk_ qlk_
            replace s2 : a27.eval (.tmp 2) = .pointer (some ⟨q2, 0, none⟩) := (hρ.inn 2 rfl).trans s2
            replace s3 : a27.eval (.tmp 3) = .pointer (some ⟨q4, 0, none⟩) := (hρ.inn 3 rfl).trans s3
            replace s4 : a27.eval (.tmp 4) = .pointer (some ⟨q6, 0, none⟩) := (hρ.inn 4 rfl).trans s4
            replace s5 : a27.eval (.tmp 5) = .pointer (some ⟨q11, 0, none⟩) := (hρ.inn 5 rfl).trans s5
            replace s7 : a27.eval (.tmp 7) = .int .i64 (6 + (((x.f3).length : Nat) : Int)) := (hρ.inn 7 rfl).trans s7
            replace s8 : a27.eval (.tmp 8) = .int .i64 ((kk : Nat) : Int) := (hρ.inn 8 rfl).trans s8
            replace s50 : a27.eval (.tmp 50) = .bool true := (hρ.inn 50 rfl).trans s50
            replace s57 : a27.eval (.tmp 57) = .bool false := (hρ.inn 57 rfl).trans s57
            replace hs : St 109 a27 := ⟨hsz.trans hs.size, hdf.trans hs.nodef⟩
            clear hρ hsz hdf qx_ ql_ qk_ qlk_
            refine hK29 _ _ ?_
            clear hK29
            obtain ⟨A42, hA_v43⟩ : ∃ x_, x_ = tailA 4 A2 c2 (kk + 1) := ⟨_, rfl⟩
            have T_v43 : Tail 4 A2 A42 n2 c2 (kk + 1) := hA_v43 ▸ tailA_of 4 A2 n2 c2 (kk + 1) (own_cap o_z9).1
            refine wp_drawn (n := 109) [] [11, 12, 13] [] (fun k_ v_ wx => match k_ with | 0 => ∃ q39, v_ = .slice (some ⟨q39, 0, none⟩) 0 0 ∧ w38.heap.size ≤ q39 ∧ wx.heap[q39]? = some (.cells #[] 26 (0, 0)) | 1 => v_ = .pointer (some ⟨q11, 1, none⟩) | 2 => v_ = .slice A2 n2 c2 | 3 => v_ = .int .i64 ((kk : Nat) : Int) | 4 => v_ = .slice A2 kk c2 | 5 => ∃ (A_r41 : Option Addr) (c_r41 : Nat), v_ = .slice A_r41 kk c_r41 ∧ ((wx).ownsRow w38.heap.size 26 4 (.slice A_r41 kk c_r41) kk ((zs2.take kk).flatMap cRecord)) | 6 => v_ = .pointer (some ⟨q11, 1, none⟩) | 7 => v_ = .slice A2 n2 c2 | 8 => v_ = .int .i64 ((kk : Nat) : Int) | 9 => v_ = .int .i64 ((kk + 1 : Nat) : Int) | 10 => v_ = .slice A42 (n2 - (kk + 1)) (c2 - (kk + 1)) | _ => True) (by kernel_rfl) (by kernel_rfl) (by kernel_rfl) (by kernel_rfl) hs.size ?_ ?_ ?_
            · intro i v wa wb hb hr
              rcases i with _ | _ | _ | _ | _ | _ | _ | _ | _ | _ | _ | _ | _ | _ | i
              · obtain ⟨q39, hr, hg, hh⟩ := hr; exact ⟨q39, hr, hg, keep_below hh hb⟩
              · exact hr
              · exact hr
              · exact hr
              · exact hr
              · obtain ⟨A, c, hr, ho⟩ := hr; exact ⟨A, c, hr, own_below ho hb⟩
              · exact hr
              · exact hr
              · exact hr
              · exact hr
              · exact hr
              · trivial
              · trivial
              · trivial
              · trivial
            · refine d_step rfl rfl ?_ (d_step rfl rfl ?_ (d_step rfl rfl ?_ (d_step rfl rfl ?_ (d_step rfl rfl ?_ (d_step rfl rfl ?_ (d_step rfl rfl ?_ (d_step rfl rfl ?_ (d_step rfl rfl ?_ (d_step rfl rfl ?_ (d_step rfl rfl ?_ (d_chain rfl (d_chain rfl (d_chain rfl (d_nil))))))))))))))
              · intro xv_ wx ρ hρ hwx hd K hK
                refine g_bslice0 rfl Try.underlying47 Try.sizeOf26 ?_
                intro q w' N
                exact hK _ _ N.below ⟨q, rfl, Nat.le_trans hwx.size N.lo, N.here⟩
              · intro xv_ wx ρ hρ hwx hd K hK
                have e5 : ρ (.tmp 5) = .pointer (some ⟨q11, 0, none⟩) := (hρ.inn 5 rfl).trans s5
                refine g_field (r := 1) rfl e5 Try.underlying50 rfl (fun w => Try.sizeOf47 w) rfl rfl ?_
                exact hK _ _ (Below.refl _ _) rfl
              · intro xv_ wx ρ hρ hwx hd K hK
                obtain r1 : xv_ 1 = .pointer (some ⟨q11, 1, none⟩) := hd 1 rfl
                have e85 : ρ (.tmp 85) = .pointer (some ⟨q11, 1, none⟩) := (hρ.out 1 85 rfl (by rw [hs.size]; decide) rfl).trans r1
                have h_q11 := keep_below h_q11 hwx
                refine g_load rfl e85 Try.isAgg47 (box_cell h_q11 rfl) ?_
                exact hK _ _ (Below.refl _ _) rfl
              · intro xv_ wx ρ hρ hwx hd K hK
                have e8 : ρ (.tmp 8) = .int .i64 ((kk : Nat) : Int) := (hρ.inn 8 rfl).trans s8
                refine g_move rfl e8 ?_
                exact hK _ _ (Below.refl _ _) rfl
              · intro xv_ wx ρ hρ hwx hd K hK
                obtain r2 : xv_ 2 = .slice A2 n2 c2 := hd 2 rfl
                have e86 : ρ (.tmp 86) = .slice A2 n2 c2 := (hρ.out 2 86 rfl (by rw [hs.size]; decide) rfl).trans r2
                obtain r3 : xv_ 3 = .int .i64 ((kk : Nat) : Int) := hd 3 rfl
                have e87 : ρ (.tmp 87) = .int .i64 ((kk : Nat) : Int) := (hρ.out 3 87 rfl (by rw [hs.size]; decide) rfl).trans r3
                refine g_head rfl e86 e87 Try.underlying47 (fun w => Try.sizeOf26 w) (by have := (own_cap o_z9).1; omega) ?_
                exact hK _ _ (Below.refl _ _) rfl
              · intro xv_ wx ρ hρ hwx hd K hK
                obtain ⟨q39, r0, g0_q39, h_q39⟩ : ∃ q39, xv_ 0 = .slice (some ⟨q39, 0, none⟩) 0 0 ∧ w38.heap.size ≤ q39 ∧ wx.heap[q39]? = some (.cells #[] 26 (0, 0)) := hd 0 rfl
                have e84 : ρ (.tmp 84) = .slice (some ⟨q39, 0, none⟩) 0 0 := (hρ.out 0 84 rfl (by rw [hs.size]; decide) rfl).trans r0
                obtain r4 : xv_ 4 = .slice A2 kk c2 := hd 4 rfl
                have e88 : ρ (.tmp 88) = .slice A2 kk c2 := (hρ.out 4 88 rfl (by rw [hs.size]; decide) rfl).trans r4
                refine g_append_fresh (news := (zs2.take kk).flatMap cRecord) w38.heap.size (.agg #[.int .i64 0, .int .i64 0, .int .i64 0, .string ⟨#[]⟩]) 4 40 rfl e84 e88 Try.underlying47 infoRecord rfl (by decide) g0_q39 h_q39 (fun h => by have hz := (own_nil o_z9) h; omega) ((Rd.take cRecord_len (Rd.of_own o_z9) hn2 (by omega)).below hwx) (flatRecord_one _) (by omega) hwx.size (by decide) ?_
                intro A c w' ho hb
                exact hK _ _ hb ⟨A, c, rfl, ho⟩
              · intro xv_ wx ρ hρ hwx hd K hK
                have e5 : ρ (.tmp 5) = .pointer (some ⟨q11, 0, none⟩) := (hρ.inn 5 rfl).trans s5
                refine g_field (r := 1) rfl e5 Try.underlying50 rfl (fun w => Try.sizeOf47 w) rfl rfl ?_
                exact hK _ _ (Below.refl _ _) rfl
              · intro xv_ wx ρ hρ hwx hd K hK
                obtain r6 : xv_ 6 = .pointer (some ⟨q11, 1, none⟩) := hd 6 rfl
                have e90 : ρ (.tmp 90) = .pointer (some ⟨q11, 1, none⟩) := (hρ.out 6 90 rfl (by rw [hs.size]; decide) rfl).trans r6
                have h_q11 := keep_below h_q11 hwx
                refine g_load rfl e90 Try.isAgg47 (box_cell h_q11 rfl) ?_
                exact hK _ _ (Below.refl _ _) rfl
              · intro xv_ wx ρ hρ hwx hd K hK
                have e8 : ρ (.tmp 8) = .int .i64 ((kk : Nat) : Int) := (hρ.inn 8 rfl).trans s8
                refine g_move rfl e8 ?_
                exact hK _ _ (Below.refl _ _) rfl
              · intro xv_ wx ρ hρ hwx hd K hK
                obtain r8 : xv_ 8 = .int .i64 ((kk : Nat) : Int) := hd 8 rfl
                have e92 : ρ (.tmp 92) = .int .i64 ((kk : Nat) : Int) := (hρ.out 8 92 rfl (by rw [hs.size]; decide) rfl).trans r8
                refine g_add (r := ((kk + 1 : Nat) : Int)) rfl e92 ((hρ.cst _)) (by omega) (by omega) ?_
                exact hK _ _ (Below.refl _ _) rfl
              · intro xv_ wx ρ hρ hwx hd K hK
                obtain r7 : xv_ 7 = .slice A2 n2 c2 := hd 7 rfl
                have e91 : ρ (.tmp 91) = .slice A2 n2 c2 := (hρ.out 7 91 rfl (by rw [hs.size]; decide) rfl).trans r7
                obtain r9 : xv_ 9 = .int .i64 ((kk + 1 : Nat) : Int) := hd 9 rfl
                have e93 : ρ (.tmp 93) = .int .i64 ((kk + 1 : Nat) : Int) := (hρ.out 9 93 rfl (by rw [hs.size]; decide) rfl).trans r9
                refine g_tailD rfl e91 e93 Try.underlying47 (fun w => Try.sizeOf26 w) (by omega) rfl rfl hA_v43 ?_
                exact hK _ _ (Below.refl _ _) rfl
            · intro x0_ w44 hb_w44 hr0
              obtain ⟨q39, r0, g0_q39, h_q39⟩ : ∃ q39, x0_ 0 = .slice (some ⟨q39, 0, none⟩) 0 0 ∧ w38.heap.size ≤ q39 ∧ w44.heap[q39]? = some (.cells #[] 26 (0, 0)) := hr0 0 (by decide) rfl rfl
              obtain r1 : x0_ 1 = .pointer (some ⟨q11, 1, none⟩) := hr0 1 (by decide) rfl rfl
              obtain r2 : x0_ 2 = .slice A2 n2 c2 := hr0 2 (by decide) rfl rfl
              obtain r3 : x0_ 3 = .int .i64 ((kk : Nat) : Int) := hr0 3 (by decide) rfl rfl
              obtain r4 : x0_ 4 = .slice A2 kk c2 := hr0 4 (by decide) rfl rfl
              obtain ⟨A_r41, c_r41, r5, o_r41⟩ : ∃ (A_r41 : Option Addr) (c_r41 : Nat), x0_ 5 = .slice A_r41 kk c_r41 ∧ ((w44).ownsRow w38.heap.size 26 4 (.slice A_r41 kk c_r41) kk ((zs2.take kk).flatMap cRecord)) := hr0 5 (by decide) rfl rfl
              obtain r6 : x0_ 6 = .pointer (some ⟨q11, 1, none⟩) := hr0 6 (by decide) rfl rfl
              obtain r7 : x0_ 7 = .slice A2 n2 c2 := hr0 7 (by decide) rfl rfl
              obtain r8 : x0_ 8 = .int .i64 ((kk : Nat) : Int) := hr0 8 (by decide) rfl rfl
              obtain r9 : x0_ 9 = .int .i64 ((kk + 1 : Nat) : Int) := hr0 9 (by decide) rfl rfl
              obtain r10 : x0_ 10 = .slice A42 (n2 - (kk + 1)) (c2 - (kk + 1)) := hr0 10 (by decide) rfl rfl
              clear hr0
              have d_r41_q2 := own_ne_box o_r41 (lt_of_block h_q2)
              have d_r41_q4 := own_ne_box o_r41 (lt_of_block h_q4)
              have d_r41_q6 := own_ne_box o_r41 (lt_of_block h_q6)
              have d_r41_q11 := own_ne_box o_r41 (lt_of_block h_q11)
              have d_r41_q34 := own_ne_box o_r41 (lt_of_block h_q34)
              have m_z9_r41 := own_ne_row o_z9 o_r41 (Nat.le_refl _)
              have m_r41_z9 := ne_row_symm m_z9_r41
              have m_r36_r41 := own_ne_row o_r36 o_r41 (Nat.le_refl _)
              have m_r41_r36 := ne_row_symm m_r36_r41
              have g_r41 : ∀ b, (A_r41 : Option Addr).map (·.block) = some b → w.heap.size ≤ b := fun b h => Nat.le_trans hB.size (own_row o_r41 b h).1
              replace o_r41 := own_base (base := w.heap.size) o_r41 hB.size
              replace h_q2 := keep_below h_q2 hb_w44
              replace h_q4 := keep_below h_q4 hb_w44
              replace h_q6 := keep_below h_q6 hb_w44
              replace h_q11 := keep_below h_q11 hb_w44
              replace h_q34 := keep_below h_q34 hb_w44
              replace o_z9 := own_below o_z9 hb_w44
              replace o_r36 := own_below o_r36 hb_w44
              replace hB := hB.trans (hb_w44.mono hB.size)
              clear hb_w44
              intro op_ ho_ xv_ ρ hρ qx_ ql_ qk_
              obtain rfl := Option.some.inj ho_
              clear ho_
              have e89 : ρ (.tmp 89) = .slice A_r41 kk c_r41 := (hρ.out 5 89 rfl (by rw [hs.size]; decide) rfl).trans ((qx_ 5 (by decide) rfl rfl).trans r5)
              have e94 : ρ (.tmp 94) = .slice A42 (n2 - (kk + 1)) (c2 - (kk + 1)) := (hρ.out 10 94 rfl (by rw [hs.size]; decide) rfl).trans ((qx_ 10 (by decide) rfl rfl).trans r10)
              refine g_append (n' := kk + (n2 - (kk + 1))) (ys := ((zs2.take kk) ++ (zs2.drop (kk + 1))).flatMap cRecord) w.heap.size (.agg #[.int .i64 0, .int .i64 0, .int .i64 0, .string ⟨#[]⟩]) 4 40 rfl e89 e94 Try.underlying47 infoRecord rfl (by decide) o_r41 (fun h => by have hz := (own_nil o_z9) (T_v43.nil h); omega) (T_v43.rd cRecord_len hn2 (by omega) (Rd.of_own o_z9)) (flatRecord_one _) (by omega) hB.size (by decide) (by omega) (by first | rfl | simp [List.flatMap_append] | (simp [List.flatMap_append, cRecord]; done)) ?_
              intro A_r45 c_r45 w46 P_r45
              have d_r45_q2 := P_r45.ne d_r41_q2 (lt_of_block h_q2)
              have d_r45_q4 := P_r45.ne d_r41_q4 (lt_of_block h_q4)
              have d_r45_q6 := P_r45.ne d_r41_q6 (lt_of_block h_q6)
              have d_r45_q11 := P_r45.ne d_r41_q11 (lt_of_block h_q11)
              have d_r45_q34 := P_r45.ne d_r41_q34 (lt_of_block h_q34)
              have m_z9_r45 := P_r45.row m_z9_r41 o_z9
              have m_r45_z9 := ne_row_symm m_z9_r45
              have m_r36_r45 := P_r45.row m_r36_r41 o_r36
              have m_r45_r36 := ne_row_symm m_r36_r45
              have g_r45 := P_r45.ge g_r41 hB.size
              replace h_q2 := keep_grown h_q2 P_r45.grown d_r41_q2
              replace h_q4 := keep_grown h_q4 P_r45.grown d_r41_q4
              replace h_q6 := keep_grown h_q6 P_r45.grown d_r41_q6
              replace h_q11 := keep_grown h_q11 P_r45.grown d_r41_q11
              replace h_q34 := keep_grown h_q34 P_r45.grown d_r41_q34
              replace o_z9 := own_grown o_z9 P_r45.grown m_z9_r41
              replace o_r36 := own_grown o_r36 P_r45.grown m_r36_r41
              replace hB := below_grown hB hB.size P_r45.grown g_r41
              have o_r45 := P_r45.own
              clear P_r45
              clear hρ qx_ ql_ qk_
              clear e89 e94
              intro op_ ho_ xv_ ρ hρ qx_ ql_ qk_
              obtain rfl := Option.some.inj ho_
              clear ho_
              have e5 : ρ (.tmp 5) = .pointer (some ⟨q11, 0, none⟩) := (hρ.inn 5 rfl).trans s5
              refine g_field (r := 1) rfl e5 Try.underlying50 rfl (fun w => Try.sizeOf47 w) rfl rfl ?_
              clear hρ qx_ ql_ qk_
              clear e5
              intro op_ ho_ xv_ ρ hρ qx_ ql_ qk_
              obtain rfl := Option.some.inj ho_
              clear ho_
              have e96 : ρ (.tmp 96) = .pointer (some ⟨q11, 1, none⟩) := (hρ.out 12 96 rfl (by rw [hs.size]; decide) rfl).trans (qk_ (12, _) (by simp))
              have e95 : ρ (.tmp 95) = .slice A_r45 (kk + (n2 - (kk + 1))) c_r45 := (hρ.out 11 95 rfl (by rw [hs.size]; decide) rfl).trans (qk_ (11, _) (by simp))
              refine g_store (cs' := #[.int .i64 room, .slice A_r45 (kk + (n2 - (kk + 1))) c_r45, .slice A_r36 (m2 + 1) c_r36]) rfl e96 e95 Try.sizeOf47 rfl h_q11 (Nat.le_of_ble_eq_true rfl) rfl ?_
              intro w47 W_w47
              replace h_q2 := keep_wrote h_q2 W_w47 n_q11_q2
              replace h_q4 := keep_wrote h_q4 W_w47 n_q11_q4
              replace h_q6 := keep_wrote h_q6 W_w47 n_q11_q6
              replace h_q11 := W_w47.here
              replace h_q34 := keep_wrote h_q34 W_w47 n_q11_q34
              replace o_z9 := own_wrote o_z9 W_w47 d_z9_q11
              replace o_r36 := own_wrote o_r36 W_w47 d_r36_q11
              replace o_r45 := own_wrote o_r45 W_w47 d_r45_q11
              replace hB := below_wrote hB hB.size W_w47 g_q11.le
              clear W_w47
              clear e95 e96
              clear hρ qx_ ql_ qk_
              intro xv_ a28 hρ hsz hdf qx_ ql_ qk_ qlk_
              replace s2 : a28.eval (.tmp 2) = .pointer (some ⟨q2, 0, none⟩) := (hρ.inn 2 rfl).trans s2
              replace s3 : a28.eval (.tmp 3) = .pointer (some ⟨q4, 0, none⟩) := (hρ.inn 3 rfl).trans s3
              replace s4 : a28.eval (.tmp 4) = .pointer (some ⟨q6, 0, none⟩) := (hρ.inn 4 rfl).trans s4
              replace s5 : a28.eval (.tmp 5) = .pointer (some ⟨q11, 0, none⟩) := (hρ.inn 5 rfl).trans s5
              replace s7 : a28.eval (.tmp 7) = .int .i64 (6 + (((x.f3).length : Nat) : Int)) := (hρ.inn 7 rfl).trans s7
              replace s8 : a28.eval (.tmp 8) = .int .i64 ((kk : Nat) : Int) := (hρ.inn 8 rfl).trans s8
              replace s50 : a28.eval (.tmp 50) = .bool true := (hρ.inn 50 rfl).trans s50
              replace s57 : a28.eval (.tmp 57) = .bool false := (hρ.inn 57 rfl).trans s57
              replace hs : St 109 a28 := ⟨hsz.trans hs.size, hdf.trans hs.nodef⟩
              clear hρ hsz hdf qx_ ql_ qk_ qlk_
              have hee : zs2.take kk ++ zs2.drop (kk + 1) = zs2.eraseIdx kk := (List.eraseIdx_eq_take_drop_succ ..).symm
              have hue := usedN_erase hkl
              have hle3 := lesS_erase hkl hkp
              have hle4 : (zs2.eraseIdx kk).length = n2 - 1 := by rw [List.length_eraseIdx, if_pos hkl]; omega
              have o_z9 := o_r45
              have g_z9 := g_r45
              have d_z9_q2 := d_r45_q2
              have d_z9_q4 := d_r45_q4
              have d_z9_q6 := d_r45_q6
              have d_z9_q11 := d_r45_q11
              have m_y9_z9 := m_r36_r45
              have m_z9_y9 := m_r45_r36
              have o_y9 := o_r36
              have g_y9 := g_r36
              have d_y9_q2 := d_r36_q2
              have d_y9_q4 := d_r36_q4
              have d_y9_q6 := d_r36_q6
              have d_y9_q11 := d_r36_q11
              have m_z9_y9 := m_r45_r36
              have m_y9_z9 := m_r36_r45
              refine show _ ∧ _ from ⟨⟨zs2.take kk ++ zs2.drop (kk + 1), kk + (n2 - (kk + 1)), ds2 ++ [zs2[kk].f0], m2 + 1, _, _, _, _, hs, s2, s3, s4, s5, s7, hB, h_q2, h_q4, h_q6, h_q11, o_z9, o_y9, d_z9_q2, d_z9_q4, d_z9_q6, d_z9_q11, m_y9_z9, g_z9, d_y9_q2, d_y9_q4, d_y9_q6, d_y9_q11, m_z9_y9, g_y9, (by rw [hee, hle4]; omega), (by simp [hm2]), (by rw [hee]; exact hev.trans (evict_go (by omega) hkl hkk2 rfl)), (by rw [hee]; omega), (by rw [hee]; exact fun z hz => hT2 z (List.mem_of_mem_eraseIdx hz)), (by omega), (by omega), (by rw [hee]; omega)⟩, ?_⟩
              show lenAt w47 q11 1 < lenAt w20 q11 1
              rw [lenAt_of h_q11 rfl, lenAt_of mu0 rfl]
              omega
        · replace s50 := s50.trans (congrArg Value.bool (decide_eq_false hgo))
          replace s50 : a18.eval (.tmp 50) = .bool false := s50
          refine c_false s50 ?_
          refine wp_exit ?_
          refine hK18 _ _ ?_
          clear hK18
          refine wp_seq_k fun K48 hK48 => ?_
          have hT3 : ∀ z ∈ zs2 ++ [x], Txt z.f3 := by intro z hz; rcases List.mem_append.1 hz with h | h; exact (hT2 z h).1; rw [List.mem_singleton.1 h]; exact hTx
          have hres : kRes room zs ds x = (zs2 ++ [x], ds2) := kRes_fits (by unfold kFits; exact decide_eq_true (by omega)) (hev.trans (evict_stop (by omega) _))
          refine wp_region_lit ?_
          refine q_val rfl rfl ?_
          refine g_field (r := 1) rfl s5 Try.underlying50 rfl (fun w => Try.sizeOf47 w) rfl rfl ?_
          intro a19 p19
          have s97 : a19.eval (.tmp 97) = .pointer (some ⟨q11, 1, none⟩) := p19.at hs (by decide)
          replace hs := p19.st hs
          refine q_val rfl rfl ?_
          refine g_load rfl s97 Try.isAgg47 (box_cell h_q11 rfl) ?_
          intro a20 p20
          have s98 : a20.eval (.tmp 98) = .slice A2 n2 c2 := p20.at hs (by decide)
          replace hs := p20.st hs
          refine q_val rfl rfl ?_
          refine g_loadB rfl (((p20.ne rfl).trans (p19.ne rfl)).trans s3) Try.isAgg26 Try.sizeOf26 rfl h_q4 ?_
          intro a21 p21
          have s99 : a21.eval (.tmp 99) = .agg #[.int .i64 x.f0, .int .i64 x.f1, .int .i64 x.f2, .string ⟨(x.f3).toArray⟩] := p21.at hs (by decide)
          replace hs := p21.st hs
          refine q_val rfl rfl ?_
          refine g_bslice1 (cs := #[.int .i64 x.f0, .int .i64 x.f1, .int .i64 x.f2, .string ⟨(x.f3).toArray⟩]) rfl Try.underlying47 Try.sizeOf26 Try.zeroValue26 s99 (by kernel_rfl) rfl (by decide) ?_
          intro q49 w50 N_q49
          have n_q2_q49 := N_q49.ne ⟨lt_of_block h_q2⟩
          have n_q49_q2 := n_q2_q49.symm
          have n_q4_q49 := N_q49.ne ⟨lt_of_block h_q4⟩
          have n_q49_q4 := n_q4_q49.symm
          have n_q6_q49 := N_q49.ne ⟨lt_of_block h_q6⟩
          have n_q49_q6 := n_q6_q49.symm
          have n_q11_q49 := N_q49.ne ⟨lt_of_block h_q11⟩
          have n_q49_q11 := n_q11_q49.symm
          have d_z9_q49 := own_ne_new o_z9 N_q49
          have d_y9_q49 := own_ne_new o_y9 N_q49
          have g_q49 : GeB w.heap.size q49 := ⟨Nat.le_trans hB.size N_q49.lo⟩
          replace h_q2 := keep_below h_q2 N_q49.below
          replace h_q4 := keep_below h_q4 N_q49.below
          replace h_q6 := keep_below h_q6 N_q49.below
          replace h_q11 := keep_below h_q11 N_q49.below
          replace o_z9 := own_below o_z9 N_q49.below
          replace o_y9 := own_below o_y9 N_q49.below
          replace hB := below_new hB hB.size N_q49
          have h_q49 := N_q49.here
          clear N_q49
          intro a22 p22
          have s100 : a22.eval (.tmp 100) = .slice (some ⟨q49, 0, none⟩) 1 1 := p22.at hs (by decide)
          replace hs := p22.st hs
          refine q_val rfl rfl ?_
          refine g_append (n' := n2 + 1) (ys := (zs2 ++ [x]).flatMap cRecord) w.heap.size (.agg #[.int .i64 0, .int .i64 0, .int .i64 0, .string ⟨#[]⟩]) 4 40 rfl (((p22.ne rfl).trans (p21.ne rfl)).trans s98) s100 Try.underlying47 infoRecord rfl (by decide) o_z9 (fun h => by cases h) (rd_box (xs := ([x]).flatMap cRecord) h_q49 rfl rfl) (flatRecord_one _) (by omega) hB.size (by decide) (by omega) (by first | rfl | simp [List.flatMap_append] | (simp [List.flatMap_append, cRecord]; done)) ?_
          intro A_r51 c_r51 w52 P_r51
          have d_r51_q2 := P_r51.ne d_z9_q2 (lt_of_block h_q2)
          have d_r51_q4 := P_r51.ne d_z9_q4 (lt_of_block h_q4)
          have d_r51_q6 := P_r51.ne d_z9_q6 (lt_of_block h_q6)
          have d_r51_q11 := P_r51.ne d_z9_q11 (lt_of_block h_q11)
          have d_r51_q49 := P_r51.ne d_z9_q49 (lt_of_block h_q49)
          have m_y9_r51 := P_r51.row m_y9_z9 o_y9
          have m_r51_y9 := ne_row_symm m_y9_r51
          have g_r51 := P_r51.ge g_z9 hB.size
          replace h_q2 := keep_grown h_q2 P_r51.grown d_z9_q2
          replace h_q4 := keep_grown h_q4 P_r51.grown d_z9_q4
          replace h_q6 := keep_grown h_q6 P_r51.grown d_z9_q6
          replace h_q11 := keep_grown h_q11 P_r51.grown d_z9_q11
          replace h_q49 := keep_grown h_q49 P_r51.grown d_z9_q49
          replace o_y9 := own_grown o_y9 P_r51.grown m_y9_z9
          replace hB := below_grown hB hB.size P_r51.grown g_z9
          have o_r51 := P_r51.own
          clear P_r51
          intro a23 p23
          have s101 : a23.eval (.tmp 101) = .slice A_r51 (n2 + 1) c_r51 := p23.at hs (by decide)
          replace hs := p23.st hs
          refine q_val rfl rfl ?_
          refine g_field (r := 1) rfl (((p23.ne rfl).trans ((p22.ne rfl).trans ((p21.ne rfl).trans ((p20.ne rfl).trans (p19.ne rfl))))).trans s5) Try.underlying50 rfl (fun w => Try.sizeOf47 w) rfl rfl ?_
          intro a24 p24
          have s102 : a24.eval (.tmp 102) = .pointer (some ⟨q11, 1, none⟩) := p24.at hs (by decide)
          replace hs := p24.st hs
          refine q_eff rfl rfl ?_
          refine g_store (cs' := #[.int .i64 room, .slice A_r51 (n2 + 1) c_r51, .slice B2 m2 d2]) rfl s102 ((p24.ne rfl).trans s101) Try.sizeOf47 rfl h_q11 (Nat.le_of_ble_eq_true rfl) rfl ?_
          intro w53 W_w53
          replace h_q2 := keep_wrote h_q2 W_w53 n_q11_q2
          replace h_q4 := keep_wrote h_q4 W_w53 n_q11_q4
          replace h_q6 := keep_wrote h_q6 W_w53 n_q11_q6
          replace h_q11 := W_w53.here
          replace h_q49 := keep_wrote h_q49 W_w53 n_q11_q49
          replace o_y9 := own_wrote o_y9 W_w53 d_y9_q11
          replace o_r51 := own_wrote o_r51 W_w53 d_r51_q11
          replace hB := below_wrote hB hB.size W_w53 g_q11.le
          clear W_w53
          refine wpList_nil ?_
          replace s2 : a24.eval (.tmp 2) = .pointer (some ⟨q2, 0, none⟩) := ((p24.ne rfl).trans ((p23.ne rfl).trans ((p22.ne rfl).trans ((p21.ne rfl).trans ((p20.ne rfl).trans (p19.ne rfl)))))).trans s2
          replace s4 : a24.eval (.tmp 4) = .pointer (some ⟨q6, 0, none⟩) := ((p24.ne rfl).trans ((p23.ne rfl).trans ((p22.ne rfl).trans ((p21.ne rfl).trans ((p20.ne rfl).trans (p19.ne rfl)))))).trans s4
          replace s5 : a24.eval (.tmp 5) = .pointer (some ⟨q11, 0, none⟩) := ((p24.ne rfl).trans ((p23.ne rfl).trans ((p22.ne rfl).trans ((p21.ne rfl).trans ((p20.ne rfl).trans (p19.ne rfl)))))).trans s5
          refine hK48 _ _ ?_
          clear hK48
          refine wp_seq_k fun K54 hK54 => ?_
          refine wp_seq_k fun K55 hK55 => ?_
          refine wp_region_lit ?_
          refine q_val rfl rfl ?_
          refine g_loadB rfl s5 Try.isAgg50 Try.sizeOf50 rfl h_q11 ?_
          intro a25 p25
          have s103 : a25.eval (.tmp 103) = .agg #[.int .i64 room, .slice A_r51 (n2 + 1) c_r51, .slice B2 m2 d2] := p25.at hs (by decide)
          replace hs := p25.st hs
          refine q_val rfl rfl ?_
          refine g_call rfl rfl Try.call41 (arr1 s103) ?_
          refine (sRecorderOk_any _ _ _ _ _ _ _ (zs2 ++ [x]) ds2 _ (by simp only [List.length_append, List.length_cons, List.length_nil, List.length_drop, List.length_take] <;> omega) (by omega) hT3 (Rd.of_own o_r51) hm2 (by omega) (Rd.of_own o_y9)).mono ?_
          rintro e w57 ⟨rfl, hb56⟩
          refine ⟨_, rfl, ?_⟩
          replace h_q2 := keep_below h_q2 hb56
          replace h_q4 := keep_below h_q4 hb56
          replace h_q6 := keep_below h_q6 hb56
          replace h_q11 := keep_below h_q11 hb56
          replace h_q49 := keep_below h_q49 hb56
          replace o_y9 := own_below o_y9 hb56
          replace o_r51 := own_below o_r51 hb56
          replace hB := hB.trans (hb56.mono hB.size)
          clear hb56
          intro a26 p26
          have s104 : a26.eval (.tmp 104) = .bool (rcOk room (zs2 ++ [x]) ds2) := p26.at hs (by decide)
          replace hs := p26.st hs
          refine q_val rfl rfl ?_
          refine g_not rfl s104 ?_
          intro a27 p27
          have s105 : a27.eval (.tmp 105) = .bool (!(rcOk room (zs2 ++ [x]) ds2)) := p27.at hs (by decide)
          replace hs := p27.st hs
          refine wpList_nil ?_
          replace s2 : a27.eval (.tmp 2) = .pointer (some ⟨q2, 0, none⟩) := ((p27.ne rfl).trans ((p26.ne rfl).trans (p25.ne rfl))).trans s2
          replace s4 : a27.eval (.tmp 4) = .pointer (some ⟨q6, 0, none⟩) := ((p27.ne rfl).trans ((p26.ne rfl).trans (p25.ne rfl))).trans s4
          replace s5 : a27.eval (.tmp 5) = .pointer (some ⟨q11, 0, none⟩) := ((p27.ne rfl).trans ((p26.ne rfl).trans (p25.ne rfl))).trans s5
          refine hK55 _ _ ?_
          clear hK55
          cases hq : rcOk room (zs2 ++ [x]) ds2
          · replace s105 := s105.trans (congrArg (fun b => Value.bool (!b)) hq)
            replace s105 : a27.eval (.tmp 105) = .bool true := s105
            refine c_true s105 ?_
            refine wp_seq_k fun K58 hK58 => ?_
            refine wp_region_lit ?_
            refine q_val rfl rfl ?_
            refine g_loadB rfl s2 Try.isAgg50 Try.sizeOf50 rfl h_q2 ?_
            intro a28 p28
            have s106 : a28.eval (.tmp 106) = .agg #[.int .i64 room, .slice A zs.length cp, .slice B ds.length dp] := p28.at hs (by decide)
            replace hs := p28.st hs
            refine q_val rfl rfl ?_
            refine g_call rfl rfl Try.call74 (arr1 s106) ?_
            refine (copyRecorder_any _ _ _ _ _ _ _ zs ds _ rfl (by omega) hnn_z (hr_z.below hB) rfl (by omega) hnn_d (hr_d.below hB)).mono ?_
            rintro e w60 ⟨A59, c59, B59, d59, rfl, o_z59, o_y59, hb59⟩
            refine ⟨_, rfl, ?_⟩
            have m_z59_y59 := own_ne_type o_z59 o_y59 (by decide)
            have m_y59_z59 := ne_row_symm m_z59_y59
            have d_z59_q2 := own_ne_box o_z59 (lt_of_block h_q2)
            have d_z59_q4 := own_ne_box o_z59 (lt_of_block h_q4)
            have d_z59_q6 := own_ne_box o_z59 (lt_of_block h_q6)
            have d_z59_q11 := own_ne_box o_z59 (lt_of_block h_q11)
            have d_z59_q49 := own_ne_box o_z59 (lt_of_block h_q49)
            have m_y9_z59 := own_ne_row o_y9 o_z59 (Nat.le_refl _)
            have m_z59_y9 := ne_row_symm m_y9_z59
            have m_r51_z59 := own_ne_row o_r51 o_z59 (Nat.le_refl _)
            have m_z59_r51 := ne_row_symm m_r51_z59
            have g_z59 : ∀ b, (A59 : Option Addr).map (·.block) = some b → w.heap.size ≤ b := fun b h => Nat.le_trans hB.size (own_row o_z59 b h).1
            replace o_z59 := own_base (base := w.heap.size) o_z59 hB.size
            have d_y59_q2 := own_ne_box o_y59 (lt_of_block h_q2)
            have d_y59_q4 := own_ne_box o_y59 (lt_of_block h_q4)
            have d_y59_q6 := own_ne_box o_y59 (lt_of_block h_q6)
            have d_y59_q11 := own_ne_box o_y59 (lt_of_block h_q11)
            have d_y59_q49 := own_ne_box o_y59 (lt_of_block h_q49)
            have m_y9_y59 := own_ne_row o_y9 o_y59 (Nat.le_refl _)
            have m_y59_y9 := ne_row_symm m_y9_y59
            have m_r51_y59 := own_ne_row o_r51 o_y59 (Nat.le_refl _)
            have m_y59_r51 := ne_row_symm m_r51_y59
            have g_y59 : ∀ b, (B59 : Option Addr).map (·.block) = some b → w.heap.size ≤ b := fun b h => Nat.le_trans hB.size (own_row o_y59 b h).1
            replace o_y59 := own_base (base := w.heap.size) o_y59 hB.size
            replace h_q2 := keep_below h_q2 hb59
            replace h_q4 := keep_below h_q4 hb59
            replace h_q6 := keep_below h_q6 hb59
            replace h_q11 := keep_below h_q11 hb59
            replace h_q49 := keep_below h_q49 hb59
            replace o_y9 := own_below o_y9 hb59
            replace o_r51 := own_below o_r51 hb59
            replace hB := hB.trans (hb59.mono hB.size)
            clear hb59
            intro a29 p29
            have s107 : a29.eval (.tmp 107) = .agg #[.int .i64 room, .slice A59 zs.length c59, .slice B59 ds.length d59] := p29.at hs (by decide)
            replace hs := p29.st hs
            refine q_eff rfl rfl ?_
            refine g_storeB rfl (((p29.ne rfl).trans (p28.ne rfl)).trans s4) s107 Try.sizeOf50 rfl rfl h_q6 rfl ?_
            intro w61 W_w61
            replace h_q2 := keep_wrote h_q2 W_w61 n_q6_q2
            replace h_q4 := keep_wrote h_q4 W_w61 n_q6_q4
            replace h_q6 := W_w61.here
            replace h_q11 := keep_wrote h_q11 W_w61 n_q6_q11
            replace h_q49 := keep_wrote h_q49 W_w61 n_q6_q49
            replace o_y9 := own_wrote o_y9 W_w61 d_y9_q6
            replace o_r51 := own_wrote o_r51 W_w61 d_r51_q6
            replace o_z59 := own_wrote o_z59 W_w61 d_z59_q6
            replace o_y59 := own_wrote o_y59 W_w61 d_y59_q6
            replace hB := below_wrote hB hB.size W_w61 g_q6.le
            clear W_w61
            refine wpList_nil ?_
            replace s4 : a29.eval (.tmp 4) = .pointer (some ⟨q6, 0, none⟩) := ((p29.ne rfl).trans (p28.ne rfl)).trans s4
            replace s5 : a29.eval (.tmp 5) = .pointer (some ⟨q11, 0, none⟩) := ((p29.ne rfl).trans (p28.ne rfl)).trans s5
            refine hK58 _ _ ?_
            clear hK58
            refine wp_ret ?_
            try dsimp only [Exit.then, Exit.inBlock]
            refine ret1 hs Try.results51 (res_cell s4 h_q6 Try.isAgg50 Try.sizeOf50 rfl) ?_
            refine ⟨_, rfl, ?_, hB⟩
            rw [keepR_bad hres hq]
            exact ⟨_, _, _, _, _, _, rfl, rfl, rfl, o_z59, o_y59⟩
          · replace s105 := s105.trans (congrArg (fun b => Value.bool (!b)) hq)
            replace s105 : a27.eval (.tmp 105) = .bool false := s105
            refine c_false s105 ?_
            refine wp_skip ?_
            refine hK54 _ _ ?_
            clear hK54
            refine wp_seq_k fun K62 hK62 => ?_
            refine wp_region_lit ?_
            refine q_val rfl rfl ?_
            refine g_loadB rfl s5 Try.isAgg50 Try.sizeOf50 rfl h_q11 ?_
            intro a28 p28
            have s108 : a28.eval (.tmp 108) = .agg #[.int .i64 room, .slice A_r51 (n2 + 1) c_r51, .slice B2 m2 d2] := p28.at hs (by decide)
            replace hs := p28.st hs
            refine q_eff rfl rfl ?_
            refine g_storeB rfl ((p28.ne rfl).trans s4) s108 Try.sizeOf50 rfl rfl h_q6 rfl ?_
            intro w63 W_w63
            replace h_q2 := keep_wrote h_q2 W_w63 n_q6_q2
            replace h_q4 := keep_wrote h_q4 W_w63 n_q6_q4
            replace h_q6 := W_w63.here
            replace h_q11 := keep_wrote h_q11 W_w63 n_q6_q11
            replace h_q49 := keep_wrote h_q49 W_w63 n_q6_q49
            replace o_y9 := own_wrote o_y9 W_w63 d_y9_q6
            replace o_r51 := own_wrote o_r51 W_w63 d_r51_q6
            replace hB := below_wrote hB hB.size W_w63 g_q6.le
            clear W_w63
            refine wpList_nil ?_
            replace s4 : a28.eval (.tmp 4) = .pointer (some ⟨q6, 0, none⟩) := (p28.ne rfl).trans s4
            refine hK62 _ _ ?_
            clear hK62
            refine wp_ret ?_
            try dsimp only [Exit.then, Exit.inBlock]
            refine ret1 hs Try.results51 (res_cell s4 h_q6 Try.isAgg50 Try.sizeOf50 rfl) ?_
            refine ⟨_, rfl, ?_, hB⟩
            rw [keepR_yes hkok hres hq]
            exact ⟨_, _, _, _, _, _, rfl, (by simp only [List.length_append, List.length_cons, List.length_nil, List.length_drop, List.length_take] <;> omega), hm2, o_r51, o_y9⟩
    · refine wp_loop (fun a wr => ∃ (zs2 : List ERecord) (n2 : Nat) (ds2 : List Int) (m2 : Nat) (A2 : Option Addr) (c2 : Nat) (B2 : Option Addr) (d2 : Nat), (St 109 a) ∧ (a.eval (.tmp 2) = .pointer (some ⟨q2, 0, none⟩)) ∧ (a.eval (.tmp 3) = .pointer (some ⟨q4, 0, none⟩)) ∧ (a.eval (.tmp 4) = .pointer (some ⟨q6, 0, none⟩)) ∧ (a.eval (.tmp 5) = .pointer (some ⟨q11, 0, none⟩)) ∧ (a.eval (.tmp 7) = .int .i64 (6 + (((x.f3).length : Nat) : Int))) ∧ (Below w.heap.size w wr) ∧ (wr.heap[q2]? = some (.cells #[.int .i64 room, .slice A zs.length cp, .slice B ds.length dp] 50 (0, 0))) ∧ (wr.heap[q4]? = some (.cells #[.int .i64 x.f0, .int .i64 x.f1, .int .i64 x.f2, .string ⟨(x.f3).toArray⟩] 26 (0, 0))) ∧ (wr.heap[q6]? = some (.cells #[.int .i64 0, .slice none 0 0, .slice none 0 0] 50 (0, 0))) ∧ (wr.heap[q11]? = some (.cells #[.int .i64 room, .slice A2 n2 c2, .slice B2 m2 d2] 50 (0, 0))) ∧ (wr.ownsRow w.heap.size 26 4 (.slice A2 n2 c2) n2 (zs2.flatMap cRecord)) ∧ (wr.ownsRow w.heap.size 3 1 (.slice B2 m2 d2) m2 (ds2.flatMap cI)) ∧ ((A2 : Option Addr).map (·.block) ≠ some q2) ∧ ((A2 : Option Addr).map (·.block) ≠ some q4) ∧ ((A2 : Option Addr).map (·.block) ≠ some q6) ∧ ((A2 : Option Addr).map (·.block) ≠ some q11) ∧ (∀ b, (B2 : Option Addr).map (·.block) = some b → (A2 : Option Addr).map (·.block) ≠ some b) ∧ (∀ b, (A2 : Option Addr).map (·.block) = some b → w.heap.size ≤ b) ∧ ((B2 : Option Addr).map (·.block) ≠ some q2) ∧ ((B2 : Option Addr).map (·.block) ≠ some q4) ∧ ((B2 : Option Addr).map (·.block) ≠ some q6) ∧ ((B2 : Option Addr).map (·.block) ≠ some q11) ∧ (∀ b, (A2 : Option Addr).map (·.block) = some b → (B2 : Option Addr).map (·.block) ≠ some b) ∧ (∀ b, (B2 : Option Addr).map (·.block) = some b → w.heap.size ≤ b) ∧ (zs2.length = n2) ∧ (ds2.length = m2) ∧ (True) ∧ (¬ ((recSz x : Nat) : Int) ≤ room - ((usedN zs2 : Nat) : Int) + ((lesS x.f1 zs2 : Nat) : Int)) ∧ (∀ z ∈ zs2, Txt z.f3 ∧ z.f3.length ≤ 34) ∧ (n2 ≤ 700) ∧ (m2 + n2 ≤ 70000) ∧ (((usedN zs2 : Nat) : Int) ≤ room)) (fun _ wr => lenAt wr q11 1) (⟨zs, zs.length, ds, ds.length, _, _, _, _, hs, s2, s3, s4, s5, s7, hB, h_q2, h_q4, h_q6, h_q11, o_z9, o_y9, d_z9_q2, d_z9_q4, d_z9_q6, d_z9_q11, m_y9_z9, g_z9, d_y9_q2, d_y9_q4, d_y9_q6, d_y9_q11, m_z9_y9, g_y9, rfl, rfl, trivial, hfit, (fun z hz => ⟨hT z hz, rec_small hok hz⟩), (by omega), (by omega), hus⟩) ?_
      intro a17 w65 hI
      obtain ⟨zs2, n2, ds2, m2, A2, c2, B2, d2, hs, s2, s3, s4, s5, s7, hB, h_q2, h_q4, h_q6, h_q11, o_z9, o_y9, d_z9_q2, d_z9_q4, d_z9_q6, d_z9_q11, m_y9_z9, g_z9, d_y9_q2, d_y9_q4, d_y9_q6, d_y9_q11, m_z9_y9, g_y9, hn2, hm2, hev, hf2, hT2, hlz, hld, hus2⟩ := hI
      have mu0 := h_q11
      by_cases hl0 : lesS x.f1 zs2 = 0
      · refine wp_seq_k fun K66 hK66 => ?_
        refine wp_seq_k fun K67 hK67 => ?_
        refine wp_drawn (n := 109) [] [] [] (fun k_ v_ _wx => match k_ with | 0 => v_ = .pointer (some ⟨q11, 1, none⟩) | 1 => v_ = .slice A2 n2 c2 | 2 => v_ = .int .i64 ((usedN zs2 : Nat) : Int) | 3 => v_ = .int .i64 (6 + (((x.f3).length : Nat) : Int)) | 4 => v_ = .int .i64 (((usedN zs2 : Nat) : Int) + (6 + (((x.f3).length : Nat) : Int))) | 5 => v_ = .pointer (some ⟨q2, 0, none⟩) | 6 => v_ = .int .i64 room | 7 => v_ = .bool true | _ => True) (by kernel_rfl) (by kernel_rfl) (by kernel_rfl) (by kernel_rfl) hs.size ?_ ?_ ?_
        · intro i v wa wb hb hr
          rcases i with _ | _ | _ | _ | _ | _ | _ | _ | i
          · exact hr
          · exact hr
          · exact hr
          · exact hr
          · exact hr
          · exact hr
          · exact hr
          · exact hr
          · trivial
        · refine d_step rfl rfl ?_ (d_step rfl rfl ?_ (d_step rfl rfl ?_ (d_step rfl rfl ?_ (d_step rfl rfl ?_ (d_step rfl rfl ?_ (d_step rfl rfl ?_ (d_step rfl rfl ?_ (d_nil))))))))
          · intro xv_ wx ρ hρ hwx hd K hK
            have e5 : ρ (.tmp 5) = .pointer (some ⟨q11, 0, none⟩) := (hρ.inn 5 rfl).trans s5
            refine g_field (r := 1) rfl e5 Try.underlying50 rfl (fun w => Try.sizeOf47 w) rfl rfl ?_
            exact hK _ _ (Below.refl _ _) rfl
          · intro xv_ wx ρ hρ hwx hd K hK
            obtain r0 : xv_ 0 = .pointer (some ⟨q11, 1, none⟩) := hd 0 rfl
            have e43 : ρ (.tmp 43) = .pointer (some ⟨q11, 1, none⟩) := (hρ.out 0 43 rfl (by rw [hs.size]; decide) rfl).trans r0
            have h_q11 := keep_below h_q11 hwx
            refine g_load rfl e43 Try.isAgg47 (box_cell h_q11 rfl) ?_
            exact hK _ _ (Below.refl _ _) rfl
          · intro xv_ wx ρ hρ hwx hd K hK
            obtain r1 : xv_ 1 = .slice A2 n2 c2 := hd 1 rfl
            have e44 : ρ (.tmp 44) = .slice A2 n2 c2 := (hρ.out 1 44 rfl (by rw [hs.size]; decide) rfl).trans r1
            refine g_call rfl (hρ.fn _) Try.call70 (arr1 e44) ?_
            refine (l05Used_any _ _ _ zs2 _ hn2 (by omega) (fun z hz => (hT2 z hz).1) (fun k _ => Nat.le_trans (Nat.le_trans (usedN_le ‹_›) (by omega : usedN zs2 ≤ 4000)) (by decide)) ((Rd.of_own o_z9).below hwx)).mono ?_
            rintro e w' ⟨rfl, rfl⟩
            exact ⟨_, rfl, hK _ _ (Below.refl _ _) rfl⟩
          · intro xv_ wx ρ hρ hwx hd K hK
            have e7 : ρ (.tmp 7) = .int .i64 (6 + (((x.f3).length : Nat) : Int)) := (hρ.inn 7 rfl).trans s7
            refine g_move rfl e7 ?_
            exact hK _ _ (Below.refl _ _) rfl
          · intro xv_ wx ρ hρ hwx hd K hK
            obtain r2 : xv_ 2 = .int .i64 ((usedN zs2 : Nat) : Int) := hd 2 rfl
            have e45 : ρ (.tmp 45) = .int .i64 ((usedN zs2 : Nat) : Int) := (hρ.out 2 45 rfl (by rw [hs.size]; decide) rfl).trans r2
            obtain r3 : xv_ 3 = .int .i64 (6 + (((x.f3).length : Nat) : Int)) := hd 3 rfl
            have e46 : ρ (.tmp 46) = .int .i64 (6 + (((x.f3).length : Nat) : Int)) := (hρ.out 3 46 rfl (by rw [hs.size]; decide) rfl).trans r3
            refine g_add (r := ((usedN zs2 : Nat) : Int) + (6 + (((x.f3).length : Nat) : Int))) rfl e45 e46 (by omega) (by omega) ?_
            exact hK _ _ (Below.refl _ _) rfl
          · intro xv_ wx ρ hρ hwx hd K hK
            have e2 : ρ (.tmp 2) = .pointer (some ⟨q2, 0, none⟩) := (hρ.inn 2 rfl).trans s2
            refine g_field (r := 0) rfl e2 Try.underlying50 rfl (fun w => Try.sizeOf3 w) rfl rfl ?_
            exact hK _ _ (Below.refl _ _) rfl
          · intro xv_ wx ρ hρ hwx hd K hK
            obtain r5 : xv_ 5 = .pointer (some ⟨q2, 0, none⟩) := hd 5 rfl
            have e48 : ρ (.tmp 48) = .pointer (some ⟨q2, 0, none⟩) := (hρ.out 5 48 rfl (by rw [hs.size]; decide) rfl).trans r5
            have h_q2 := keep_below h_q2 hwx
            refine g_load rfl e48 Try.isAgg3 (box_cell h_q2 rfl) ?_
            exact hK _ _ (Below.refl _ _) rfl
          · intro xv_ wx ρ hρ hwx hd K hK
            obtain r4 : xv_ 4 = .int .i64 (((usedN zs2 : Nat) : Int) + (6 + (((x.f3).length : Nat) : Int))) := hd 4 rfl
            have e47 : ρ (.tmp 47) = .int .i64 (((usedN zs2 : Nat) : Int) + (6 + (((x.f3).length : Nat) : Int))) := (hρ.out 4 47 rfl (by rw [hs.size]; decide) rfl).trans r4
            obtain r6 : xv_ 6 = .int .i64 room := hd 6 rfl
            have e49 : ρ (.tmp 49) = .int .i64 room := (hρ.out 6 49 rfl (by rw [hs.size]; decide) rfl).trans r6
            refine g_gtr rfl e47 e49 ?_
            exact hK _ _ (Below.refl _ _) (congrArg Value.bool (decide_eq_true (by omega)))
        · intro x0_ w68 hb_w68 hr0
          obtain r0 : x0_ 0 = .pointer (some ⟨q11, 1, none⟩) := hr0 0 (by decide) rfl rfl
          obtain r1 : x0_ 1 = .slice A2 n2 c2 := hr0 1 (by decide) rfl rfl
          obtain r2 : x0_ 2 = .int .i64 ((usedN zs2 : Nat) : Int) := hr0 2 (by decide) rfl rfl
          obtain r3 : x0_ 3 = .int .i64 (6 + (((x.f3).length : Nat) : Int)) := hr0 3 (by decide) rfl rfl
          obtain r4 : x0_ 4 = .int .i64 (((usedN zs2 : Nat) : Int) + (6 + (((x.f3).length : Nat) : Int))) := hr0 4 (by decide) rfl rfl
          obtain r5 : x0_ 5 = .pointer (some ⟨q2, 0, none⟩) := hr0 5 (by decide) rfl rfl
          obtain r6 : x0_ 6 = .int .i64 room := hr0 6 (by decide) rfl rfl
          obtain r7 : x0_ 7 = .bool true := hr0 7 (by decide) rfl rfl
          clear hr0
          replace h_q2 := keep_below h_q2 hb_w68
          replace h_q4 := keep_below h_q4 hb_w68
          replace h_q6 := keep_below h_q6 hb_w68
          replace h_q11 := keep_below h_q11 hb_w68
          replace o_z9 := own_below o_z9 hb_w68
          replace o_y9 := own_below o_y9 hb_w68
          replace hB := hB.trans (hb_w68.mono hB.size)
          clear hb_w68
          intro xv_ a18 hρ hsz hdf qx_ ql_ qk_ qlk_
          replace s2 : a18.eval (.tmp 2) = .pointer (some ⟨q2, 0, none⟩) := (hρ.inn 2 rfl).trans s2
          replace s3 : a18.eval (.tmp 3) = .pointer (some ⟨q4, 0, none⟩) := (hρ.inn 3 rfl).trans s3
          replace s4 : a18.eval (.tmp 4) = .pointer (some ⟨q6, 0, none⟩) := (hρ.inn 4 rfl).trans s4
          replace s5 : a18.eval (.tmp 5) = .pointer (some ⟨q11, 0, none⟩) := (hρ.inn 5 rfl).trans s5
          replace s7 : a18.eval (.tmp 7) = .int .i64 (6 + (((x.f3).length : Nat) : Int)) := (hρ.inn 7 rfl).trans s7
          have s50 : a18.eval (.tmp 50) = .bool true := (hρ.out 7 50 rfl (by rw [hs.size]; decide)).trans ((qx_ 7 (by decide) rfl rfl).trans r7)
          replace hs : St 109 a18 := ⟨hsz.trans hs.size, hdf.trans hs.nodef⟩
          clear hρ hsz hdf qx_ ql_ qk_ qlk_
          refine hK67 _ _ ?_
          clear hK67
          refine c_true s50 ?_
          refine wp_skip ?_
          refine hK66 _ _ ?_
          clear hK66
          refine wp_block ?_
          refine wp_seq_k fun K69 hK69 => ?_
          have hlv : lbTo zs2 x.f1 n2 = (-1) := by rw [← hn2]; exact lb_no (by omega)
          refine wp_region_lit ?_
          refine q_val rfl rfl ?_
          refine g_field (r := 1) rfl s5 Try.underlying50 rfl (fun w => Try.sizeOf47 w) rfl rfl ?_
          intro a19 p19
          have s51 : a19.eval (.tmp 51) = .pointer (some ⟨q11, 1, none⟩) := p19.at hs (by decide)
          replace hs := p19.st hs
          refine q_val rfl rfl ?_
          refine g_load rfl s51 Try.isAgg47 (box_cell h_q11 rfl) ?_
          intro a20 p20
          have s52 : a20.eval (.tmp 52) = .slice A2 n2 c2 := p20.at hs (by decide)
          replace hs := p20.st hs
          refine q_val rfl rfl ?_
          refine g_field (r := 1) rfl (((p20.ne rfl).trans (p19.ne rfl)).trans s3) Try.underlying26 rfl (fun w => Try.sizeOf3 w) rfl rfl ?_
          intro a21 p21
          have s53 : a21.eval (.tmp 53) = .pointer (some ⟨q4, 1, none⟩) := p21.at hs (by decide)
          replace hs := p21.st hs
          refine q_val rfl rfl ?_
          refine g_load rfl s53 Try.isAgg3 (box_cell h_q4 rfl) ?_
          intro a22 p22
          have s54 : a22.eval (.tmp 54) = .int .i64 x.f1 := p22.at hs (by decide)
          replace hs := p22.st hs
          refine q_val rfl rfl ?_
          refine g_call rfl rfl Try.call78 (arr2 (((p22.ne rfl).trans (p21.ne rfl)).trans s52) s54) ?_
          refine (l05Least_at (v := (-1)) _ hn2 (by omega) hlv (Rd.of_own o_z9)).mono ?_
          rintro e w71 ⟨rfl, hb70⟩
          refine ⟨_, rfl, ?_⟩
          replace h_q2 := keep_below h_q2 hb70
          replace h_q4 := keep_below h_q4 hb70
          replace h_q6 := keep_below h_q6 hb70
          replace h_q11 := keep_below h_q11 hb70
          replace o_z9 := own_below o_z9 hb70
          replace o_y9 := own_below o_y9 hb70
          replace hB := hB.trans (hb70.mono hB.size)
          clear hb70
          intro a23 p23
          have s55 : a23.eval (.tmp 55) = .int .i64 (-1) := p23.at hs (by decide)
          replace hs := p23.st hs
          refine q_val rfl rfl ?_
          refine g_assign rfl s55 ?_
          intro a24 p24
          have s8 : a24.eval (.tmp 8) = .int .i64 (-1) := p24.at hs (by decide)
          replace hs := p24.st hs
          refine wpList_nil ?_
          replace s2 : a24.eval (.tmp 2) = .pointer (some ⟨q2, 0, none⟩) := ((p24.ne rfl).trans ((p23.ne rfl).trans ((p22.ne rfl).trans ((p21.ne rfl).trans ((p20.ne rfl).trans (p19.ne rfl)))))).trans s2
          replace s3 : a24.eval (.tmp 3) = .pointer (some ⟨q4, 0, none⟩) := ((p24.ne rfl).trans ((p23.ne rfl).trans ((p22.ne rfl).trans ((p21.ne rfl).trans ((p20.ne rfl).trans (p19.ne rfl)))))).trans s3
          replace s4 : a24.eval (.tmp 4) = .pointer (some ⟨q6, 0, none⟩) := ((p24.ne rfl).trans ((p23.ne rfl).trans ((p22.ne rfl).trans ((p21.ne rfl).trans ((p20.ne rfl).trans (p19.ne rfl)))))).trans s4
          replace s5 : a24.eval (.tmp 5) = .pointer (some ⟨q11, 0, none⟩) := ((p24.ne rfl).trans ((p23.ne rfl).trans ((p22.ne rfl).trans ((p21.ne rfl).trans ((p20.ne rfl).trans (p19.ne rfl)))))).trans s5
          replace s7 : a24.eval (.tmp 7) = .int .i64 (6 + (((x.f3).length : Nat) : Int)) := ((p24.ne rfl).trans ((p23.ne rfl).trans ((p22.ne rfl).trans ((p21.ne rfl).trans ((p20.ne rfl).trans (p19.ne rfl)))))).trans s7
          replace s50 : a24.eval (.tmp 50) = .bool true := ((p24.ne rfl).trans ((p23.ne rfl).trans ((p22.ne rfl).trans ((p21.ne rfl).trans ((p20.ne rfl).trans (p19.ne rfl)))))).trans s50
          refine hK69 _ _ ?_
          clear hK69
          refine wp_seq_k fun K72 hK72 => ?_
          refine wp_seq_k fun K73 hK73 => ?_
          refine wp_region_lit ?_
          refine q_val rfl rfl ?_
          refine g_move rfl s8 ?_
          intro a25 p25
          have s56 : a25.eval (.tmp 56) = .int .i64 (-1) := p25.at hs (by decide)
          replace hs := p25.st hs
          refine q_val rfl rfl ?_
          refine g_lss rfl s56 rfl ?_
          intro a26 p26
          have s57 : a26.eval (.tmp 57) = .bool true := (p26.at hs (by decide)).trans (congrArg Value.bool (decide_eq_true (by omega)))
          replace hs := p26.st hs
          refine wpList_nil ?_
          replace s2 : a26.eval (.tmp 2) = .pointer (some ⟨q2, 0, none⟩) := ((p26.ne rfl).trans (p25.ne rfl)).trans s2
          replace s3 : a26.eval (.tmp 3) = .pointer (some ⟨q4, 0, none⟩) := ((p26.ne rfl).trans (p25.ne rfl)).trans s3
          replace s4 : a26.eval (.tmp 4) = .pointer (some ⟨q6, 0, none⟩) := ((p26.ne rfl).trans (p25.ne rfl)).trans s4
          replace s5 : a26.eval (.tmp 5) = .pointer (some ⟨q11, 0, none⟩) := ((p26.ne rfl).trans (p25.ne rfl)).trans s5
          replace s7 : a26.eval (.tmp 7) = .int .i64 (6 + (((x.f3).length : Nat) : Int)) := ((p26.ne rfl).trans (p25.ne rfl)).trans s7
          replace s50 : a26.eval (.tmp 50) = .bool true := ((p26.ne rfl).trans (p25.ne rfl)).trans s50
          replace s8 : a26.eval (.tmp 8) = .int .i64 (-1) := ((p26.ne rfl).trans (p25.ne rfl)).trans s8
          refine hK73 _ _ ?_
          clear hK73
          refine c_true s57 ?_
          refine wp_seq_k fun K74 hK74 => ?_
          refine wp_region_lit ?_
          refine q_val rfl rfl ?_
          refine g_loadB rfl s2 Try.isAgg50 Try.sizeOf50 rfl h_q2 ?_
          intro a27 p27
          have s58 : a27.eval (.tmp 58) = .agg #[.int .i64 room, .slice A zs.length cp, .slice B ds.length dp] := p27.at hs (by decide)
          replace hs := p27.st hs
          refine q_val rfl rfl ?_
          refine g_call rfl rfl Try.call74 (arr1 s58) ?_
          refine (copyRecorder_any _ _ _ _ _ _ _ zs ds _ rfl (by omega) hnn_z (hr_z.below hB) rfl (by omega) hnn_d (hr_d.below hB)).mono ?_
          rintro e w76 ⟨A75, c75, B75, d75, rfl, o_z75, o_y75, hb75⟩
          refine ⟨_, rfl, ?_⟩
          have m_z75_y75 := own_ne_type o_z75 o_y75 (by decide)
          have m_y75_z75 := ne_row_symm m_z75_y75
          have d_z75_q2 := own_ne_box o_z75 (lt_of_block h_q2)
          have d_z75_q4 := own_ne_box o_z75 (lt_of_block h_q4)
          have d_z75_q6 := own_ne_box o_z75 (lt_of_block h_q6)
          have d_z75_q11 := own_ne_box o_z75 (lt_of_block h_q11)
          have m_z9_z75 := own_ne_row o_z9 o_z75 (Nat.le_refl _)
          have m_z75_z9 := ne_row_symm m_z9_z75
          have m_y9_z75 := own_ne_row o_y9 o_z75 (Nat.le_refl _)
          have m_z75_y9 := ne_row_symm m_y9_z75
          have g_z75 : ∀ b, (A75 : Option Addr).map (·.block) = some b → w.heap.size ≤ b := fun b h => Nat.le_trans hB.size (own_row o_z75 b h).1
          replace o_z75 := own_base (base := w.heap.size) o_z75 hB.size
          have d_y75_q2 := own_ne_box o_y75 (lt_of_block h_q2)
          have d_y75_q4 := own_ne_box o_y75 (lt_of_block h_q4)
          have d_y75_q6 := own_ne_box o_y75 (lt_of_block h_q6)
          have d_y75_q11 := own_ne_box o_y75 (lt_of_block h_q11)
          have m_z9_y75 := own_ne_row o_z9 o_y75 (Nat.le_refl _)
          have m_y75_z9 := ne_row_symm m_z9_y75
          have m_y9_y75 := own_ne_row o_y9 o_y75 (Nat.le_refl _)
          have m_y75_y9 := ne_row_symm m_y9_y75
          have g_y75 : ∀ b, (B75 : Option Addr).map (·.block) = some b → w.heap.size ≤ b := fun b h => Nat.le_trans hB.size (own_row o_y75 b h).1
          replace o_y75 := own_base (base := w.heap.size) o_y75 hB.size
          replace h_q2 := keep_below h_q2 hb75
          replace h_q4 := keep_below h_q4 hb75
          replace h_q6 := keep_below h_q6 hb75
          replace h_q11 := keep_below h_q11 hb75
          replace o_z9 := own_below o_z9 hb75
          replace o_y9 := own_below o_y9 hb75
          replace hB := hB.trans (hb75.mono hB.size)
          clear hb75
          intro a28 p28
          have s59 : a28.eval (.tmp 59) = .agg #[.int .i64 room, .slice A75 zs.length c75, .slice B75 ds.length d75] := p28.at hs (by decide)
          replace hs := p28.st hs
          refine q_eff rfl rfl ?_
          refine g_storeB rfl (((p28.ne rfl).trans (p27.ne rfl)).trans s5) s59 Try.sizeOf50 rfl rfl h_q11 rfl ?_
          intro w77 W_w77
          replace h_q2 := keep_wrote h_q2 W_w77 n_q11_q2
          replace h_q4 := keep_wrote h_q4 W_w77 n_q11_q4
          replace h_q6 := keep_wrote h_q6 W_w77 n_q11_q6
          replace h_q11 := W_w77.here
          replace o_z9 := own_wrote o_z9 W_w77 d_z9_q11
          replace o_y9 := own_wrote o_y9 W_w77 d_y9_q11
          replace o_z75 := own_wrote o_z75 W_w77 d_z75_q11
          replace o_y75 := own_wrote o_y75 W_w77 d_y75_q11
          replace hB := below_wrote hB hB.size W_w77 g_q11.le
          clear W_w77
          refine wpList_nil ?_
          replace s2 : a28.eval (.tmp 2) = .pointer (some ⟨q2, 0, none⟩) := ((p28.ne rfl).trans (p27.ne rfl)).trans s2
          replace s3 : a28.eval (.tmp 3) = .pointer (some ⟨q4, 0, none⟩) := ((p28.ne rfl).trans (p27.ne rfl)).trans s3
          replace s4 : a28.eval (.tmp 4) = .pointer (some ⟨q6, 0, none⟩) := ((p28.ne rfl).trans (p27.ne rfl)).trans s4
          replace s5 : a28.eval (.tmp 5) = .pointer (some ⟨q11, 0, none⟩) := ((p28.ne rfl).trans (p27.ne rfl)).trans s5
          replace s7 : a28.eval (.tmp 7) = .int .i64 (6 + (((x.f3).length : Nat) : Int)) := ((p28.ne rfl).trans (p27.ne rfl)).trans s7
          replace s50 : a28.eval (.tmp 50) = .bool true := ((p28.ne rfl).trans (p27.ne rfl)).trans s50
          replace s8 : a28.eval (.tmp 8) = .int .i64 (-1) := ((p28.ne rfl).trans (p27.ne rfl)).trans s8
          replace s57 : a28.eval (.tmp 57) = .bool true := ((p28.ne rfl).trans (p27.ne rfl)).trans s57
          refine hK74 _ _ ?_
          clear hK74
          refine wp_seq_k fun K78 hK78 => ?_
          have hres : kRes room zs ds x = (zs, ds ++ [x.f0]) := kRes_not (by unfold kFits; exact decide_eq_false (by omega))
          refine wp_region_lit ?_
          refine q_val rfl rfl ?_
          refine g_field (r := 2) rfl s5 Try.underlying50 rfl (fun w => Try.sizeOf48 w) rfl rfl ?_
          intro a29 p29
          have s60 : a29.eval (.tmp 60) = .pointer (some ⟨q11, 2, none⟩) := p29.at hs (by decide)
          replace hs := p29.st hs
          refine q_val rfl rfl ?_
          refine g_load rfl s60 Try.isAgg48 (box_cell h_q11 rfl) ?_
          intro a30 p30
          have s61 : a30.eval (.tmp 61) = .slice B75 ds.length d75 := p30.at hs (by decide)
          replace hs := p30.st hs
          refine q_val rfl rfl ?_
          refine g_field (r := 0) rfl (((p30.ne rfl).trans (p29.ne rfl)).trans s3) Try.underlying26 rfl (fun w => Try.sizeOf3 w) rfl rfl ?_
          intro a31 p31
          have s62 : a31.eval (.tmp 62) = .pointer (some ⟨q4, 0, none⟩) := p31.at hs (by decide)
          replace hs := p31.st hs
          refine q_val rfl rfl ?_
          refine g_load rfl s62 Try.isAgg3 (box_cell h_q4 rfl) ?_
          intro a32 p32
          have s63 : a32.eval (.tmp 63) = .int .i64 x.f0 := p32.at hs (by decide)
          replace hs := p32.st hs
          refine q_val rfl rfl ?_
          refine g_bslice1 (cs := #[.int .i64 x.f0]) rfl Try.underlying48 Try.sizeOf3 Try.zeroValue3 s63 (by kernel_rfl) rfl (by decide) ?_
          intro q79 w80 N_q79
          have n_q2_q79 := N_q79.ne ⟨lt_of_block h_q2⟩
          have n_q79_q2 := n_q2_q79.symm
          have n_q4_q79 := N_q79.ne ⟨lt_of_block h_q4⟩
          have n_q79_q4 := n_q4_q79.symm
          have n_q6_q79 := N_q79.ne ⟨lt_of_block h_q6⟩
          have n_q79_q6 := n_q6_q79.symm
          have n_q11_q79 := N_q79.ne ⟨lt_of_block h_q11⟩
          have n_q79_q11 := n_q11_q79.symm
          have d_z9_q79 := own_ne_new o_z9 N_q79
          have d_y9_q79 := own_ne_new o_y9 N_q79
          have d_z75_q79 := own_ne_new o_z75 N_q79
          have d_y75_q79 := own_ne_new o_y75 N_q79
          have g_q79 : GeB w.heap.size q79 := ⟨Nat.le_trans hB.size N_q79.lo⟩
          replace h_q2 := keep_below h_q2 N_q79.below
          replace h_q4 := keep_below h_q4 N_q79.below
          replace h_q6 := keep_below h_q6 N_q79.below
          replace h_q11 := keep_below h_q11 N_q79.below
          replace o_z9 := own_below o_z9 N_q79.below
          replace o_y9 := own_below o_y9 N_q79.below
          replace o_z75 := own_below o_z75 N_q79.below
          replace o_y75 := own_below o_y75 N_q79.below
          replace hB := below_new hB hB.size N_q79
          have h_q79 := N_q79.here
          clear N_q79
          intro a33 p33
          have s64 : a33.eval (.tmp 64) = .slice (some ⟨q79, 0, none⟩) 1 1 := p33.at hs (by decide)
          replace hs := p33.st hs
          refine q_val rfl rfl ?_
          refine g_append (n' := ds.length + 1) (ys := (ds ++ [x.f0]).flatMap cI) w.heap.size (.int .i64 0) 1 8 rfl (((p33.ne rfl).trans ((p32.ne rfl).trans (p31.ne rfl))).trans s61) s64 Try.underlying48 infoI64 rfl (by decide) o_y75 (fun h => by cases h) (rd_box (xs := ([x.f0]).flatMap cI) h_q79 rfl rfl) (flatI_one _) (by omega) hB.size (by decide) (by omega) (by first | rfl | simp [List.flatMap_append] | (simp [List.flatMap_append, cI]; done)) ?_
          intro A_r81 c_r81 w82 P_r81
          have d_r81_q2 := P_r81.ne d_y75_q2 (lt_of_block h_q2)
          have d_r81_q4 := P_r81.ne d_y75_q4 (lt_of_block h_q4)
          have d_r81_q6 := P_r81.ne d_y75_q6 (lt_of_block h_q6)
          have d_r81_q11 := P_r81.ne d_y75_q11 (lt_of_block h_q11)
          have d_r81_q79 := P_r81.ne d_y75_q79 (lt_of_block h_q79)
          have m_z9_r81 := P_r81.row m_z9_y75 o_z9
          have m_r81_z9 := ne_row_symm m_z9_r81
          have m_y9_r81 := P_r81.row m_y9_y75 o_y9
          have m_r81_y9 := ne_row_symm m_y9_r81
          have m_z75_r81 := P_r81.row m_z75_y75 o_z75
          have m_r81_z75 := ne_row_symm m_z75_r81
          have g_r81 := P_r81.ge g_y75 hB.size
          replace h_q2 := keep_grown h_q2 P_r81.grown d_y75_q2
          replace h_q4 := keep_grown h_q4 P_r81.grown d_y75_q4
          replace h_q6 := keep_grown h_q6 P_r81.grown d_y75_q6
          replace h_q11 := keep_grown h_q11 P_r81.grown d_y75_q11
          replace h_q79 := keep_grown h_q79 P_r81.grown d_y75_q79
          replace o_z9 := own_grown o_z9 P_r81.grown m_z9_y75
          replace o_y9 := own_grown o_y9 P_r81.grown m_y9_y75
          replace o_z75 := own_grown o_z75 P_r81.grown m_z75_y75
          replace hB := below_grown hB hB.size P_r81.grown g_y75
          have o_r81 := P_r81.own
          clear P_r81
          intro a34 p34
          have s65 : a34.eval (.tmp 65) = .slice A_r81 (ds.length + 1) c_r81 := p34.at hs (by decide)
          replace hs := p34.st hs
          refine q_val rfl rfl ?_
          refine g_field (r := 2) rfl (((p34.ne rfl).trans ((p33.ne rfl).trans ((p32.ne rfl).trans ((p31.ne rfl).trans ((p30.ne rfl).trans (p29.ne rfl)))))).trans s5) Try.underlying50 rfl (fun w => Try.sizeOf48 w) rfl rfl ?_
          intro a35 p35
          have s66 : a35.eval (.tmp 66) = .pointer (some ⟨q11, 2, none⟩) := p35.at hs (by decide)
          replace hs := p35.st hs
          refine q_eff rfl rfl ?_
          refine g_store (cs' := #[.int .i64 room, .slice A75 zs.length c75, .slice A_r81 (ds.length + 1) c_r81]) rfl s66 ((p35.ne rfl).trans s65) Try.sizeOf48 rfl h_q11 (Nat.le_of_ble_eq_true rfl) rfl ?_
          intro w83 W_w83
          replace h_q2 := keep_wrote h_q2 W_w83 n_q11_q2
          replace h_q4 := keep_wrote h_q4 W_w83 n_q11_q4
          replace h_q6 := keep_wrote h_q6 W_w83 n_q11_q6
          replace h_q11 := W_w83.here
          replace h_q79 := keep_wrote h_q79 W_w83 n_q11_q79
          replace o_z9 := own_wrote o_z9 W_w83 d_z9_q11
          replace o_y9 := own_wrote o_y9 W_w83 d_y9_q11
          replace o_z75 := own_wrote o_z75 W_w83 d_z75_q11
          replace o_r81 := own_wrote o_r81 W_w83 d_r81_q11
          replace hB := below_wrote hB hB.size W_w83 g_q11.le
          clear W_w83
          refine wpList_nil ?_
          replace s2 : a35.eval (.tmp 2) = .pointer (some ⟨q2, 0, none⟩) := ((p35.ne rfl).trans ((p34.ne rfl).trans ((p33.ne rfl).trans ((p32.ne rfl).trans ((p31.ne rfl).trans ((p30.ne rfl).trans (p29.ne rfl))))))).trans s2
          replace s3 : a35.eval (.tmp 3) = .pointer (some ⟨q4, 0, none⟩) := ((p35.ne rfl).trans ((p34.ne rfl).trans ((p33.ne rfl).trans ((p32.ne rfl).trans ((p31.ne rfl).trans ((p30.ne rfl).trans (p29.ne rfl))))))).trans s3
          replace s4 : a35.eval (.tmp 4) = .pointer (some ⟨q6, 0, none⟩) := ((p35.ne rfl).trans ((p34.ne rfl).trans ((p33.ne rfl).trans ((p32.ne rfl).trans ((p31.ne rfl).trans ((p30.ne rfl).trans (p29.ne rfl))))))).trans s4
          replace s5 : a35.eval (.tmp 5) = .pointer (some ⟨q11, 0, none⟩) := ((p35.ne rfl).trans ((p34.ne rfl).trans ((p33.ne rfl).trans ((p32.ne rfl).trans ((p31.ne rfl).trans ((p30.ne rfl).trans (p29.ne rfl))))))).trans s5
          replace s7 : a35.eval (.tmp 7) = .int .i64 (6 + (((x.f3).length : Nat) : Int)) := ((p35.ne rfl).trans ((p34.ne rfl).trans ((p33.ne rfl).trans ((p32.ne rfl).trans ((p31.ne rfl).trans ((p30.ne rfl).trans (p29.ne rfl))))))).trans s7
          replace s50 : a35.eval (.tmp 50) = .bool true := ((p35.ne rfl).trans ((p34.ne rfl).trans ((p33.ne rfl).trans ((p32.ne rfl).trans ((p31.ne rfl).trans ((p30.ne rfl).trans (p29.ne rfl))))))).trans s50
          replace s8 : a35.eval (.tmp 8) = .int .i64 (-1) := ((p35.ne rfl).trans ((p34.ne rfl).trans ((p33.ne rfl).trans ((p32.ne rfl).trans ((p31.ne rfl).trans ((p30.ne rfl).trans (p29.ne rfl))))))).trans s8
          replace s57 : a35.eval (.tmp 57) = .bool true := ((p35.ne rfl).trans ((p34.ne rfl).trans ((p33.ne rfl).trans ((p32.ne rfl).trans ((p31.ne rfl).trans ((p30.ne rfl).trans (p29.ne rfl))))))).trans s57
          refine hK78 _ _ ?_
          clear hK78
          refine wp_seq_k fun K84 hK84 => ?_
          refine wp_seq_k fun K85 hK85 => ?_
          refine wp_region_lit ?_
          refine q_val rfl rfl ?_
          refine g_loadB rfl s5 Try.isAgg50 Try.sizeOf50 rfl h_q11 ?_
          intro a36 p36
          have s67 : a36.eval (.tmp 67) = .agg #[.int .i64 room, .slice A75 zs.length c75, .slice A_r81 (ds.length + 1) c_r81] := p36.at hs (by decide)
          replace hs := p36.st hs
          refine q_val rfl rfl ?_
          refine g_call rfl rfl Try.call41 (arr1 s67) ?_
          refine (sRecorderOk_any _ _ _ _ _ _ _ zs (ds ++ [x.f0]) _ rfl (by omega) hT (Rd.of_own o_z75) (by simp only [List.length_append, List.length_cons, List.length_nil, List.length_drop, List.length_take] <;> omega) (by omega) (Rd.of_own o_r81)).mono ?_
          rintro e w87 ⟨rfl, hb86⟩
          refine ⟨_, rfl, ?_⟩
          replace h_q2 := keep_below h_q2 hb86
          replace h_q4 := keep_below h_q4 hb86
          replace h_q6 := keep_below h_q6 hb86
          replace h_q11 := keep_below h_q11 hb86
          replace h_q79 := keep_below h_q79 hb86
          replace o_z9 := own_below o_z9 hb86
          replace o_y9 := own_below o_y9 hb86
          replace o_z75 := own_below o_z75 hb86
          replace o_r81 := own_below o_r81 hb86
          replace hB := hB.trans (hb86.mono hB.size)
          clear hb86
          intro a37 p37
          have s68 : a37.eval (.tmp 68) = .bool (rcOk room zs (ds ++ [x.f0])) := p37.at hs (by decide)
          replace hs := p37.st hs
          refine q_val rfl rfl ?_
          refine g_not rfl s68 ?_
          intro a38 p38
          have s69 : a38.eval (.tmp 69) = .bool (!(rcOk room zs (ds ++ [x.f0]))) := p38.at hs (by decide)
          replace hs := p38.st hs
          refine wpList_nil ?_
          replace s2 : a38.eval (.tmp 2) = .pointer (some ⟨q2, 0, none⟩) := ((p38.ne rfl).trans ((p37.ne rfl).trans (p36.ne rfl))).trans s2
          replace s3 : a38.eval (.tmp 3) = .pointer (some ⟨q4, 0, none⟩) := ((p38.ne rfl).trans ((p37.ne rfl).trans (p36.ne rfl))).trans s3
          replace s4 : a38.eval (.tmp 4) = .pointer (some ⟨q6, 0, none⟩) := ((p38.ne rfl).trans ((p37.ne rfl).trans (p36.ne rfl))).trans s4
          replace s5 : a38.eval (.tmp 5) = .pointer (some ⟨q11, 0, none⟩) := ((p38.ne rfl).trans ((p37.ne rfl).trans (p36.ne rfl))).trans s5
          replace s7 : a38.eval (.tmp 7) = .int .i64 (6 + (((x.f3).length : Nat) : Int)) := ((p38.ne rfl).trans ((p37.ne rfl).trans (p36.ne rfl))).trans s7
          replace s50 : a38.eval (.tmp 50) = .bool true := ((p38.ne rfl).trans ((p37.ne rfl).trans (p36.ne rfl))).trans s50
          replace s8 : a38.eval (.tmp 8) = .int .i64 (-1) := ((p38.ne rfl).trans ((p37.ne rfl).trans (p36.ne rfl))).trans s8
          replace s57 : a38.eval (.tmp 57) = .bool true := ((p38.ne rfl).trans ((p37.ne rfl).trans (p36.ne rfl))).trans s57
          refine hK85 _ _ ?_
          clear hK85
          cases hq : rcOk room zs (ds ++ [x.f0])
          · replace s69 := s69.trans (congrArg (fun b => Value.bool (!b)) hq)
            replace s69 : a38.eval (.tmp 69) = .bool true := s69
            refine c_true s69 ?_
            refine wp_seq_k fun K88 hK88 => ?_
            refine wp_region_lit ?_
            refine q_val rfl rfl ?_
            refine g_loadB rfl s2 Try.isAgg50 Try.sizeOf50 rfl h_q2 ?_
            intro a39 p39
            have s70 : a39.eval (.tmp 70) = .agg #[.int .i64 room, .slice A zs.length cp, .slice B ds.length dp] := p39.at hs (by decide)
            replace hs := p39.st hs
            refine q_val rfl rfl ?_
            refine g_call rfl rfl Try.call74 (arr1 s70) ?_
            refine (copyRecorder_any _ _ _ _ _ _ _ zs ds _ rfl (by omega) hnn_z (hr_z.below hB) rfl (by omega) hnn_d (hr_d.below hB)).mono ?_
            rintro e w90 ⟨A89, c89, B89, d89, rfl, o_z89, o_y89, hb89⟩
            refine ⟨_, rfl, ?_⟩
            have m_z89_y89 := own_ne_type o_z89 o_y89 (by decide)
            have m_y89_z89 := ne_row_symm m_z89_y89
            have d_z89_q2 := own_ne_box o_z89 (lt_of_block h_q2)
            have d_z89_q4 := own_ne_box o_z89 (lt_of_block h_q4)
            have d_z89_q6 := own_ne_box o_z89 (lt_of_block h_q6)
            have d_z89_q11 := own_ne_box o_z89 (lt_of_block h_q11)
            have d_z89_q79 := own_ne_box o_z89 (lt_of_block h_q79)
            have m_z9_z89 := own_ne_row o_z9 o_z89 (Nat.le_refl _)
            have m_z89_z9 := ne_row_symm m_z9_z89
            have m_y9_z89 := own_ne_row o_y9 o_z89 (Nat.le_refl _)
            have m_z89_y9 := ne_row_symm m_y9_z89
            have m_z75_z89 := own_ne_row o_z75 o_z89 (Nat.le_refl _)
            have m_z89_z75 := ne_row_symm m_z75_z89
            have m_r81_z89 := own_ne_row o_r81 o_z89 (Nat.le_refl _)
            have m_z89_r81 := ne_row_symm m_r81_z89
            have g_z89 : ∀ b, (A89 : Option Addr).map (·.block) = some b → w.heap.size ≤ b := fun b h => Nat.le_trans hB.size (own_row o_z89 b h).1
            replace o_z89 := own_base (base := w.heap.size) o_z89 hB.size
            have d_y89_q2 := own_ne_box o_y89 (lt_of_block h_q2)
            have d_y89_q4 := own_ne_box o_y89 (lt_of_block h_q4)
            have d_y89_q6 := own_ne_box o_y89 (lt_of_block h_q6)
            have d_y89_q11 := own_ne_box o_y89 (lt_of_block h_q11)
            have d_y89_q79 := own_ne_box o_y89 (lt_of_block h_q79)
            have m_z9_y89 := own_ne_row o_z9 o_y89 (Nat.le_refl _)
            have m_y89_z9 := ne_row_symm m_z9_y89
            have m_y9_y89 := own_ne_row o_y9 o_y89 (Nat.le_refl _)
            have m_y89_y9 := ne_row_symm m_y9_y89
            have m_z75_y89 := own_ne_row o_z75 o_y89 (Nat.le_refl _)
            have m_y89_z75 := ne_row_symm m_z75_y89
            have m_r81_y89 := own_ne_row o_r81 o_y89 (Nat.le_refl _)
            have m_y89_r81 := ne_row_symm m_r81_y89
            have g_y89 : ∀ b, (B89 : Option Addr).map (·.block) = some b → w.heap.size ≤ b := fun b h => Nat.le_trans hB.size (own_row o_y89 b h).1
            replace o_y89 := own_base (base := w.heap.size) o_y89 hB.size
            replace h_q2 := keep_below h_q2 hb89
            replace h_q4 := keep_below h_q4 hb89
            replace h_q6 := keep_below h_q6 hb89
            replace h_q11 := keep_below h_q11 hb89
            replace h_q79 := keep_below h_q79 hb89
            replace o_z9 := own_below o_z9 hb89
            replace o_y9 := own_below o_y9 hb89
            replace o_z75 := own_below o_z75 hb89
            replace o_r81 := own_below o_r81 hb89
            replace hB := hB.trans (hb89.mono hB.size)
            clear hb89
            intro a40 p40
            have s71 : a40.eval (.tmp 71) = .agg #[.int .i64 room, .slice A89 zs.length c89, .slice B89 ds.length d89] := p40.at hs (by decide)
            replace hs := p40.st hs
            refine q_eff rfl rfl ?_
            refine g_storeB rfl (((p40.ne rfl).trans (p39.ne rfl)).trans s4) s71 Try.sizeOf50 rfl rfl h_q6 rfl ?_
            intro w91 W_w91
            replace h_q2 := keep_wrote h_q2 W_w91 n_q6_q2
            replace h_q4 := keep_wrote h_q4 W_w91 n_q6_q4
            replace h_q6 := W_w91.here
            replace h_q11 := keep_wrote h_q11 W_w91 n_q6_q11
            replace h_q79 := keep_wrote h_q79 W_w91 n_q6_q79
            replace o_z9 := own_wrote o_z9 W_w91 d_z9_q6
            replace o_y9 := own_wrote o_y9 W_w91 d_y9_q6
            replace o_z75 := own_wrote o_z75 W_w91 d_z75_q6
            replace o_r81 := own_wrote o_r81 W_w91 d_r81_q6
            replace o_z89 := own_wrote o_z89 W_w91 d_z89_q6
            replace o_y89 := own_wrote o_y89 W_w91 d_y89_q6
            replace hB := below_wrote hB hB.size W_w91 g_q6.le
            clear W_w91
            refine wpList_nil ?_
            replace s2 : a40.eval (.tmp 2) = .pointer (some ⟨q2, 0, none⟩) := ((p40.ne rfl).trans (p39.ne rfl)).trans s2
            replace s3 : a40.eval (.tmp 3) = .pointer (some ⟨q4, 0, none⟩) := ((p40.ne rfl).trans (p39.ne rfl)).trans s3
            replace s4 : a40.eval (.tmp 4) = .pointer (some ⟨q6, 0, none⟩) := ((p40.ne rfl).trans (p39.ne rfl)).trans s4
            replace s5 : a40.eval (.tmp 5) = .pointer (some ⟨q11, 0, none⟩) := ((p40.ne rfl).trans (p39.ne rfl)).trans s5
            replace s7 : a40.eval (.tmp 7) = .int .i64 (6 + (((x.f3).length : Nat) : Int)) := ((p40.ne rfl).trans (p39.ne rfl)).trans s7
            replace s50 : a40.eval (.tmp 50) = .bool true := ((p40.ne rfl).trans (p39.ne rfl)).trans s50
            replace s8 : a40.eval (.tmp 8) = .int .i64 (-1) := ((p40.ne rfl).trans (p39.ne rfl)).trans s8
            replace s57 : a40.eval (.tmp 57) = .bool true := ((p40.ne rfl).trans (p39.ne rfl)).trans s57
            replace s69 : a40.eval (.tmp 69) = .bool true := ((p40.ne rfl).trans (p39.ne rfl)).trans s69
            refine hK88 _ _ ?_
            clear hK88
            refine wp_ret ?_
            try dsimp only [Exit.then, Exit.inBlock]
            refine ret1 hs Try.results51 (res_cell s4 h_q6 Try.isAgg50 Try.sizeOf50 rfl) ?_
            refine ⟨_, rfl, ?_, hB⟩
            rw [keepR_bad hres hq]
            exact ⟨_, _, _, _, _, _, rfl, rfl, rfl, o_z89, o_y89⟩
          · replace s69 := s69.trans (congrArg (fun b => Value.bool (!b)) hq)
            replace s69 : a38.eval (.tmp 69) = .bool false := s69
            refine c_false s69 ?_
            refine wp_skip ?_
            refine hK84 _ _ ?_
            clear hK84
            refine wp_seq_k fun K92 hK92 => ?_
            refine wp_region_lit ?_
            refine q_val rfl rfl ?_
            refine g_loadB rfl s5 Try.isAgg50 Try.sizeOf50 rfl h_q11 ?_
            intro a39 p39
            have s72 : a39.eval (.tmp 72) = .agg #[.int .i64 room, .slice A75 zs.length c75, .slice A_r81 (ds.length + 1) c_r81] := p39.at hs (by decide)
            replace hs := p39.st hs
            refine q_eff rfl rfl ?_
            refine g_storeB rfl ((p39.ne rfl).trans s4) s72 Try.sizeOf50 rfl rfl h_q6 rfl ?_
            intro w93 W_w93
            replace h_q2 := keep_wrote h_q2 W_w93 n_q6_q2
            replace h_q4 := keep_wrote h_q4 W_w93 n_q6_q4
            replace h_q6 := W_w93.here
            replace h_q11 := keep_wrote h_q11 W_w93 n_q6_q11
            replace h_q79 := keep_wrote h_q79 W_w93 n_q6_q79
            replace o_z9 := own_wrote o_z9 W_w93 d_z9_q6
            replace o_y9 := own_wrote o_y9 W_w93 d_y9_q6
            replace o_z75 := own_wrote o_z75 W_w93 d_z75_q6
            replace o_r81 := own_wrote o_r81 W_w93 d_r81_q6
            replace hB := below_wrote hB hB.size W_w93 g_q6.le
            clear W_w93
            refine wpList_nil ?_
            replace s2 : a39.eval (.tmp 2) = .pointer (some ⟨q2, 0, none⟩) := (p39.ne rfl).trans s2
            replace s3 : a39.eval (.tmp 3) = .pointer (some ⟨q4, 0, none⟩) := (p39.ne rfl).trans s3
            replace s4 : a39.eval (.tmp 4) = .pointer (some ⟨q6, 0, none⟩) := (p39.ne rfl).trans s4
            replace s5 : a39.eval (.tmp 5) = .pointer (some ⟨q11, 0, none⟩) := (p39.ne rfl).trans s5
            replace s7 : a39.eval (.tmp 7) = .int .i64 (6 + (((x.f3).length : Nat) : Int)) := (p39.ne rfl).trans s7
            replace s50 : a39.eval (.tmp 50) = .bool true := (p39.ne rfl).trans s50
            replace s8 : a39.eval (.tmp 8) = .int .i64 (-1) := (p39.ne rfl).trans s8
            replace s57 : a39.eval (.tmp 57) = .bool true := (p39.ne rfl).trans s57
            replace s69 : a39.eval (.tmp 69) = .bool false := (p39.ne rfl).trans s69
            refine hK92 _ _ ?_
            clear hK92
            refine wp_ret ?_
            try dsimp only [Exit.then, Exit.inBlock]
            refine ret1 hs Try.results51 (res_cell s4 h_q6 Try.isAgg50 Try.sizeOf50 rfl) ?_
            refine ⟨_, rfl, ?_, hB⟩
            rw [keepR_yes hkok hres hq]
            exact ⟨_, _, _, _, _, _, rfl, rfl, (by simp only [List.length_append, List.length_cons, List.length_nil, List.length_drop, List.length_take] <;> omega), o_z75, o_r81⟩
      · refine wp_seq_k fun K94 hK94 => ?_
        refine wp_seq_k fun K95 hK95 => ?_
        refine wp_drawn (n := 109) [] [] [] (fun k_ v_ _wx => match k_ with | 0 => v_ = .pointer (some ⟨q11, 1, none⟩) | 1 => v_ = .slice A2 n2 c2 | 2 => v_ = .int .i64 ((usedN zs2 : Nat) : Int) | 3 => v_ = .int .i64 (6 + (((x.f3).length : Nat) : Int)) | 4 => v_ = .int .i64 (((usedN zs2 : Nat) : Int) + (6 + (((x.f3).length : Nat) : Int))) | 5 => v_ = .pointer (some ⟨q2, 0, none⟩) | 6 => v_ = .int .i64 room | 7 => v_ = .bool true | _ => True) (by kernel_rfl) (by kernel_rfl) (by kernel_rfl) (by kernel_rfl) hs.size ?_ ?_ ?_
        · intro i v wa wb hb hr
          rcases i with _ | _ | _ | _ | _ | _ | _ | _ | i
          · exact hr
          · exact hr
          · exact hr
          · exact hr
          · exact hr
          · exact hr
          · exact hr
          · exact hr
          · trivial
        · refine d_step rfl rfl ?_ (d_step rfl rfl ?_ (d_step rfl rfl ?_ (d_step rfl rfl ?_ (d_step rfl rfl ?_ (d_step rfl rfl ?_ (d_step rfl rfl ?_ (d_step rfl rfl ?_ (d_nil))))))))
          · intro xv_ wx ρ hρ hwx hd K hK
            have e5 : ρ (.tmp 5) = .pointer (some ⟨q11, 0, none⟩) := (hρ.inn 5 rfl).trans s5
            refine g_field (r := 1) rfl e5 Try.underlying50 rfl (fun w => Try.sizeOf47 w) rfl rfl ?_
            exact hK _ _ (Below.refl _ _) rfl
          · intro xv_ wx ρ hρ hwx hd K hK
            obtain r0 : xv_ 0 = .pointer (some ⟨q11, 1, none⟩) := hd 0 rfl
            have e43 : ρ (.tmp 43) = .pointer (some ⟨q11, 1, none⟩) := (hρ.out 0 43 rfl (by rw [hs.size]; decide) rfl).trans r0
            have h_q11 := keep_below h_q11 hwx
            refine g_load rfl e43 Try.isAgg47 (box_cell h_q11 rfl) ?_
            exact hK _ _ (Below.refl _ _) rfl
          · intro xv_ wx ρ hρ hwx hd K hK
            obtain r1 : xv_ 1 = .slice A2 n2 c2 := hd 1 rfl
            have e44 : ρ (.tmp 44) = .slice A2 n2 c2 := (hρ.out 1 44 rfl (by rw [hs.size]; decide) rfl).trans r1
            refine g_call rfl (hρ.fn _) Try.call70 (arr1 e44) ?_
            refine (l05Used_any _ _ _ zs2 _ hn2 (by omega) (fun z hz => (hT2 z hz).1) (fun k _ => Nat.le_trans (Nat.le_trans (usedN_le ‹_›) (by omega : usedN zs2 ≤ 4000)) (by decide)) ((Rd.of_own o_z9).below hwx)).mono ?_
            rintro e w' ⟨rfl, rfl⟩
            exact ⟨_, rfl, hK _ _ (Below.refl _ _) rfl⟩
          · intro xv_ wx ρ hρ hwx hd K hK
            have e7 : ρ (.tmp 7) = .int .i64 (6 + (((x.f3).length : Nat) : Int)) := (hρ.inn 7 rfl).trans s7
            refine g_move rfl e7 ?_
            exact hK _ _ (Below.refl _ _) rfl
          · intro xv_ wx ρ hρ hwx hd K hK
            obtain r2 : xv_ 2 = .int .i64 ((usedN zs2 : Nat) : Int) := hd 2 rfl
            have e45 : ρ (.tmp 45) = .int .i64 ((usedN zs2 : Nat) : Int) := (hρ.out 2 45 rfl (by rw [hs.size]; decide) rfl).trans r2
            obtain r3 : xv_ 3 = .int .i64 (6 + (((x.f3).length : Nat) : Int)) := hd 3 rfl
            have e46 : ρ (.tmp 46) = .int .i64 (6 + (((x.f3).length : Nat) : Int)) := (hρ.out 3 46 rfl (by rw [hs.size]; decide) rfl).trans r3
            refine g_add (r := ((usedN zs2 : Nat) : Int) + (6 + (((x.f3).length : Nat) : Int))) rfl e45 e46 (by omega) (by omega) ?_
            exact hK _ _ (Below.refl _ _) rfl
          · intro xv_ wx ρ hρ hwx hd K hK
            have e2 : ρ (.tmp 2) = .pointer (some ⟨q2, 0, none⟩) := (hρ.inn 2 rfl).trans s2
            refine g_field (r := 0) rfl e2 Try.underlying50 rfl (fun w => Try.sizeOf3 w) rfl rfl ?_
            exact hK _ _ (Below.refl _ _) rfl
          · intro xv_ wx ρ hρ hwx hd K hK
            obtain r5 : xv_ 5 = .pointer (some ⟨q2, 0, none⟩) := hd 5 rfl
            have e48 : ρ (.tmp 48) = .pointer (some ⟨q2, 0, none⟩) := (hρ.out 5 48 rfl (by rw [hs.size]; decide) rfl).trans r5
            have h_q2 := keep_below h_q2 hwx
            refine g_load rfl e48 Try.isAgg3 (box_cell h_q2 rfl) ?_
            exact hK _ _ (Below.refl _ _) rfl
          · intro xv_ wx ρ hρ hwx hd K hK
            obtain r4 : xv_ 4 = .int .i64 (((usedN zs2 : Nat) : Int) + (6 + (((x.f3).length : Nat) : Int))) := hd 4 rfl
            have e47 : ρ (.tmp 47) = .int .i64 (((usedN zs2 : Nat) : Int) + (6 + (((x.f3).length : Nat) : Int))) := (hρ.out 4 47 rfl (by rw [hs.size]; decide) rfl).trans r4
            obtain r6 : xv_ 6 = .int .i64 room := hd 6 rfl
            have e49 : ρ (.tmp 49) = .int .i64 room := (hρ.out 6 49 rfl (by rw [hs.size]; decide) rfl).trans r6
            refine g_gtr rfl e47 e49 ?_
            exact hK _ _ (Below.refl _ _) (congrArg Value.bool (decide_eq_true (by omega)))
        · intro x0_ w96 hb_w96 hr0
          obtain r0 : x0_ 0 = .pointer (some ⟨q11, 1, none⟩) := hr0 0 (by decide) rfl rfl
          obtain r1 : x0_ 1 = .slice A2 n2 c2 := hr0 1 (by decide) rfl rfl
          obtain r2 : x0_ 2 = .int .i64 ((usedN zs2 : Nat) : Int) := hr0 2 (by decide) rfl rfl
          obtain r3 : x0_ 3 = .int .i64 (6 + (((x.f3).length : Nat) : Int)) := hr0 3 (by decide) rfl rfl
          obtain r4 : x0_ 4 = .int .i64 (((usedN zs2 : Nat) : Int) + (6 + (((x.f3).length : Nat) : Int))) := hr0 4 (by decide) rfl rfl
          obtain r5 : x0_ 5 = .pointer (some ⟨q2, 0, none⟩) := hr0 5 (by decide) rfl rfl
          obtain r6 : x0_ 6 = .int .i64 room := hr0 6 (by decide) rfl rfl
          obtain r7 : x0_ 7 = .bool true := hr0 7 (by decide) rfl rfl
          clear hr0
          replace h_q2 := keep_below h_q2 hb_w96
          replace h_q4 := keep_below h_q4 hb_w96
          replace h_q6 := keep_below h_q6 hb_w96
          replace h_q11 := keep_below h_q11 hb_w96
          replace o_z9 := own_below o_z9 hb_w96
          replace o_y9 := own_below o_y9 hb_w96
          replace hB := hB.trans (hb_w96.mono hB.size)
          clear hb_w96
          intro xv_ a18 hρ hsz hdf qx_ ql_ qk_ qlk_
          replace s2 : a18.eval (.tmp 2) = .pointer (some ⟨q2, 0, none⟩) := (hρ.inn 2 rfl).trans s2
          replace s3 : a18.eval (.tmp 3) = .pointer (some ⟨q4, 0, none⟩) := (hρ.inn 3 rfl).trans s3
          replace s4 : a18.eval (.tmp 4) = .pointer (some ⟨q6, 0, none⟩) := (hρ.inn 4 rfl).trans s4
          replace s5 : a18.eval (.tmp 5) = .pointer (some ⟨q11, 0, none⟩) := (hρ.inn 5 rfl).trans s5
          replace s7 : a18.eval (.tmp 7) = .int .i64 (6 + (((x.f3).length : Nat) : Int)) := (hρ.inn 7 rfl).trans s7
          have s50 : a18.eval (.tmp 50) = .bool true := (hρ.out 7 50 rfl (by rw [hs.size]; decide)).trans ((qx_ 7 (by decide) rfl rfl).trans r7)
          replace hs : St 109 a18 := ⟨hsz.trans hs.size, hdf.trans hs.nodef⟩
          clear hρ hsz hdf qx_ ql_ qk_ qlk_
          refine hK95 _ _ ?_
          clear hK95
          refine c_true s50 ?_
          refine wp_skip ?_
          refine hK94 _ _ ?_
          clear hK94
          refine wp_block ?_
          refine wp_seq_k fun K97 hK97 => ?_
          have hlp : 0 < lesS x.f1 zs2 := by omega
          obtain ⟨hkl0, hkp0⟩ := least_lesser hlp
          obtain ⟨kk, hkk2⟩ : ∃ kk, leastTo zs2 zs2.length = kk := ⟨_, rfl⟩
          have hkl : kk < zs2.length := hkk2 ▸ hkl0
          have hkp : zs2[kk].f1 < x.f1 := by simpa only [hkk2] using hkp0
          clear hkl0 hkp0
          have hlv : lbTo zs2 x.f1 n2 = ((kk : Nat) : Int) := by rw [← hn2, lb_yes hlp, hkk2]
          refine wp_region_lit ?_
          refine q_val rfl rfl ?_
          refine g_field (r := 1) rfl s5 Try.underlying50 rfl (fun w => Try.sizeOf47 w) rfl rfl ?_
          intro a19 p19
          have s51 : a19.eval (.tmp 51) = .pointer (some ⟨q11, 1, none⟩) := p19.at hs (by decide)
          replace hs := p19.st hs
          refine q_val rfl rfl ?_
          refine g_load rfl s51 Try.isAgg47 (box_cell h_q11 rfl) ?_
          intro a20 p20
          have s52 : a20.eval (.tmp 52) = .slice A2 n2 c2 := p20.at hs (by decide)
          replace hs := p20.st hs
          refine q_val rfl rfl ?_
          refine g_field (r := 1) rfl (((p20.ne rfl).trans (p19.ne rfl)).trans s3) Try.underlying26 rfl (fun w => Try.sizeOf3 w) rfl rfl ?_
          intro a21 p21
          have s53 : a21.eval (.tmp 53) = .pointer (some ⟨q4, 1, none⟩) := p21.at hs (by decide)
          replace hs := p21.st hs
          refine q_val rfl rfl ?_
          refine g_load rfl s53 Try.isAgg3 (box_cell h_q4 rfl) ?_
          intro a22 p22
          have s54 : a22.eval (.tmp 54) = .int .i64 x.f1 := p22.at hs (by decide)
          replace hs := p22.st hs
          refine q_val rfl rfl ?_
          refine g_call rfl rfl Try.call78 (arr2 (((p22.ne rfl).trans (p21.ne rfl)).trans s52) s54) ?_
          refine (l05Least_at (v := ((kk : Nat) : Int)) _ hn2 (by omega) hlv (Rd.of_own o_z9)).mono ?_
          rintro e w99 ⟨rfl, hb98⟩
          refine ⟨_, rfl, ?_⟩
          replace h_q2 := keep_below h_q2 hb98
          replace h_q4 := keep_below h_q4 hb98
          replace h_q6 := keep_below h_q6 hb98
          replace h_q11 := keep_below h_q11 hb98
          replace o_z9 := own_below o_z9 hb98
          replace o_y9 := own_below o_y9 hb98
          replace hB := hB.trans (hb98.mono hB.size)
          clear hb98
          intro a23 p23
          have s55 : a23.eval (.tmp 55) = .int .i64 ((kk : Nat) : Int) := p23.at hs (by decide)
          replace hs := p23.st hs
          refine q_val rfl rfl ?_
          refine g_assign rfl s55 ?_
          intro a24 p24
          have s8 : a24.eval (.tmp 8) = .int .i64 ((kk : Nat) : Int) := p24.at hs (by decide)
          replace hs := p24.st hs
          refine wpList_nil ?_
          replace s2 : a24.eval (.tmp 2) = .pointer (some ⟨q2, 0, none⟩) := ((p24.ne rfl).trans ((p23.ne rfl).trans ((p22.ne rfl).trans ((p21.ne rfl).trans ((p20.ne rfl).trans (p19.ne rfl)))))).trans s2
          replace s3 : a24.eval (.tmp 3) = .pointer (some ⟨q4, 0, none⟩) := ((p24.ne rfl).trans ((p23.ne rfl).trans ((p22.ne rfl).trans ((p21.ne rfl).trans ((p20.ne rfl).trans (p19.ne rfl)))))).trans s3
          replace s4 : a24.eval (.tmp 4) = .pointer (some ⟨q6, 0, none⟩) := ((p24.ne rfl).trans ((p23.ne rfl).trans ((p22.ne rfl).trans ((p21.ne rfl).trans ((p20.ne rfl).trans (p19.ne rfl)))))).trans s4
          replace s5 : a24.eval (.tmp 5) = .pointer (some ⟨q11, 0, none⟩) := ((p24.ne rfl).trans ((p23.ne rfl).trans ((p22.ne rfl).trans ((p21.ne rfl).trans ((p20.ne rfl).trans (p19.ne rfl)))))).trans s5
          replace s7 : a24.eval (.tmp 7) = .int .i64 (6 + (((x.f3).length : Nat) : Int)) := ((p24.ne rfl).trans ((p23.ne rfl).trans ((p22.ne rfl).trans ((p21.ne rfl).trans ((p20.ne rfl).trans (p19.ne rfl)))))).trans s7
          replace s50 : a24.eval (.tmp 50) = .bool true := ((p24.ne rfl).trans ((p23.ne rfl).trans ((p22.ne rfl).trans ((p21.ne rfl).trans ((p20.ne rfl).trans (p19.ne rfl)))))).trans s50
          refine hK97 _ _ ?_
          clear hK97
          refine wp_seq_k fun K100 hK100 => ?_
          refine wp_seq_k fun K101 hK101 => ?_
          refine wp_region_lit ?_
          refine q_val rfl rfl ?_
          refine g_move rfl s8 ?_
          intro a25 p25
          have s56 : a25.eval (.tmp 56) = .int .i64 ((kk : Nat) : Int) := p25.at hs (by decide)
          replace hs := p25.st hs
          refine q_val rfl rfl ?_
          refine g_lss rfl s56 rfl ?_
          intro a26 p26
          have s57 : a26.eval (.tmp 57) = .bool false := (p26.at hs (by decide)).trans (congrArg Value.bool (decide_eq_false (by omega)))
          replace hs := p26.st hs
          refine wpList_nil ?_
          replace s2 : a26.eval (.tmp 2) = .pointer (some ⟨q2, 0, none⟩) := ((p26.ne rfl).trans (p25.ne rfl)).trans s2
          replace s3 : a26.eval (.tmp 3) = .pointer (some ⟨q4, 0, none⟩) := ((p26.ne rfl).trans (p25.ne rfl)).trans s3
          replace s4 : a26.eval (.tmp 4) = .pointer (some ⟨q6, 0, none⟩) := ((p26.ne rfl).trans (p25.ne rfl)).trans s4
          replace s5 : a26.eval (.tmp 5) = .pointer (some ⟨q11, 0, none⟩) := ((p26.ne rfl).trans (p25.ne rfl)).trans s5
          replace s7 : a26.eval (.tmp 7) = .int .i64 (6 + (((x.f3).length : Nat) : Int)) := ((p26.ne rfl).trans (p25.ne rfl)).trans s7
          replace s50 : a26.eval (.tmp 50) = .bool true := ((p26.ne rfl).trans (p25.ne rfl)).trans s50
          replace s8 : a26.eval (.tmp 8) = .int .i64 ((kk : Nat) : Int) := ((p26.ne rfl).trans (p25.ne rfl)).trans s8
          refine hK101 _ _ ?_
          clear hK101
          refine c_false s57 ?_
          refine wp_skip ?_
          refine hK100 _ _ ?_
          clear hK100
          refine wp_seq_k fun K102 hK102 => ?_
          obtain ⟨b103, o104, hA105, hl_hc106, hc106⟩ := Rd.get cRecord_len (Rd.of_own o_z9) (Eq.symm hn2) (i := kk) (by omega)
          refine wp_drawn (n := 109) [] [9, 10, 11] [] (fun k_ v_ wx => match k_ with | 0 => v_ = .pointer (some ⟨q11, 2, none⟩) | 1 => v_ = .slice B2 m2 d2 | 2 => v_ = .pointer (some ⟨q11, 1, none⟩) | 3 => v_ = .slice A2 n2 c2 | 4 => v_ = .int .i64 ((kk : Nat) : Int) | 5 => v_ = .pointer (some ⟨b103, o104 + kk * 4, none⟩) | 6 => v_ = .pointer (some ⟨b103, o104 + kk * 4, none⟩) | 7 => v_ = .int .i64 (zs2[kk].f0) | 8 => ∃ q107, v_ = .slice (some ⟨q107, 0, none⟩) 1 1 ∧ w99.heap.size ≤ q107 ∧ wx.heap[q107]? = some (.cells #[.int .i64 (zs2[kk].f0)] 3 (0, 0)) | _ => True) (by kernel_rfl) (by kernel_rfl) (by kernel_rfl) (by kernel_rfl) hs.size ?_ ?_ ?_
          · intro i v wa wb hb hr
            rcases i with _ | _ | _ | _ | _ | _ | _ | _ | _ | _ | _ | _ | i
            · exact hr
            · exact hr
            · exact hr
            · exact hr
            · exact hr
            · exact hr
            · exact hr
            · exact hr
            · obtain ⟨q107, hr, hg, hh⟩ := hr; exact ⟨q107, hr, hg, keep_below hh hb⟩
            · trivial
            · trivial
            · trivial
            · trivial
          · refine d_step rfl rfl ?_ (d_step rfl rfl ?_ (d_step rfl rfl ?_ (d_step rfl rfl ?_ (d_step rfl rfl ?_ (d_step rfl rfl ?_ (d_step rfl rfl ?_ (d_step rfl rfl ?_ (d_step rfl rfl ?_ (d_chain rfl (d_chain rfl (d_chain rfl (d_nil))))))))))))
            · intro xv_ wx ρ hρ hwx hd K hK
              have e5 : ρ (.tmp 5) = .pointer (some ⟨q11, 0, none⟩) := (hρ.inn 5 rfl).trans s5
              refine g_field (r := 2) rfl e5 Try.underlying50 rfl (fun w => Try.sizeOf48 w) rfl rfl ?_
              exact hK _ _ (Below.refl _ _) rfl
            · intro xv_ wx ρ hρ hwx hd K hK
              obtain r0 : xv_ 0 = .pointer (some ⟨q11, 2, none⟩) := hd 0 rfl
              have e73 : ρ (.tmp 73) = .pointer (some ⟨q11, 2, none⟩) := (hρ.out 0 73 rfl (by rw [hs.size]; decide) rfl).trans r0
              have h_q11 := keep_below h_q11 hwx
              refine g_load rfl e73 Try.isAgg48 (box_cell h_q11 rfl) ?_
              exact hK _ _ (Below.refl _ _) rfl
            · intro xv_ wx ρ hρ hwx hd K hK
              have e5 : ρ (.tmp 5) = .pointer (some ⟨q11, 0, none⟩) := (hρ.inn 5 rfl).trans s5
              refine g_field (r := 1) rfl e5 Try.underlying50 rfl (fun w => Try.sizeOf47 w) rfl rfl ?_
              exact hK _ _ (Below.refl _ _) rfl
            · intro xv_ wx ρ hρ hwx hd K hK
              obtain r2 : xv_ 2 = .pointer (some ⟨q11, 1, none⟩) := hd 2 rfl
              have e75 : ρ (.tmp 75) = .pointer (some ⟨q11, 1, none⟩) := (hρ.out 2 75 rfl (by rw [hs.size]; decide) rfl).trans r2
              have h_q11 := keep_below h_q11 hwx
              refine g_load rfl e75 Try.isAgg47 (box_cell h_q11 rfl) ?_
              exact hK _ _ (Below.refl _ _) rfl
            · intro xv_ wx ρ hρ hwx hd K hK
              have e8 : ρ (.tmp 8) = .int .i64 ((kk : Nat) : Int) := (hρ.inn 8 rfl).trans s8
              refine g_move rfl e8 ?_
              exact hK _ _ (Below.refl _ _) rfl
            · intro xv_ wx ρ hρ hwx hd K hK
              obtain r3 : xv_ 3 = .slice A2 n2 c2 := hd 3 rfl
              have e76 : ρ (.tmp 76) = .slice A2 n2 c2 := (hρ.out 3 76 rfl (by rw [hs.size]; decide) rfl).trans r3
              obtain r4 : xv_ 4 = .int .i64 ((kk : Nat) : Int) := hd 4 rfl
              have e77 : ρ (.tmp 77) = .int .i64 ((kk : Nat) : Int) := (hρ.out 4 77 rfl (by rw [hs.size]; decide) rfl).trans r4
              refine g_index (r := o104 + kk * 4) (k := kk) rfl (e76.trans (slice_at hA105)) e77 Try.underlying47 (fun w => Try.sizeOf26 w) (by omega) rfl ?_
              exact hK _ _ (Below.refl _ _) rfl
            · intro xv_ wx ρ hρ hwx hd K hK
              obtain r5 : xv_ 5 = .pointer (some ⟨b103, o104 + kk * 4, none⟩) := hd 5 rfl
              have e78 : ρ (.tmp 78) = .pointer (some ⟨b103, o104 + kk * 4, none⟩) := (hρ.out 5 78 rfl (by rw [hs.size]; decide) rfl).trans r5
              refine g_field (r := o104 + kk * 4) rfl e78 Try.underlying26 rfl (fun w => Try.sizeOf3 w) rfl rfl ?_
              exact hK _ _ (Below.refl _ _) rfl
            · intro xv_ wx ρ hρ hwx hd K hK
              obtain r6 : xv_ 6 = .pointer (some ⟨b103, o104 + kk * 4, none⟩) := hd 6 rfl
              have e79 : ρ (.tmp 79) = .pointer (some ⟨b103, o104 + kk * 4, none⟩) := (hρ.out 6 79 rfl (by rw [hs.size]; decide) rfl).trans r6
              have hc106 := elem_below hc106 hwx hl_hc106
              refine g_load rfl e79 Try.isAgg3 (by first | exact hc106 0 _ (by decide) rfl | (rw [Nat.add_assoc]; exact hc106 0 _ (by decide) rfl)) ?_
              exact hK _ _ (Below.refl _ _) rfl
            · intro xv_ wx ρ hρ hwx hd K hK
              obtain r7 : xv_ 7 = .int .i64 (zs2[kk].f0) := hd 7 rfl
              have e80 : ρ (.tmp 80) = .int .i64 (zs2[kk].f0) := (hρ.out 7 80 rfl (by rw [hs.size]; decide) rfl).trans r7
              refine g_bslice1 (cs := #[.int .i64 (zs2[kk].f0)]) rfl Try.underlying48 Try.sizeOf3 Try.zeroValue3 e80 (by kernel_rfl) rfl (by decide) ?_
              intro q w' N
              exact hK _ _ N.below ⟨q, rfl, Nat.le_trans hwx.size N.lo, N.here⟩
          · intro x0_ w108 hb_w108 hr0
            obtain r0 : x0_ 0 = .pointer (some ⟨q11, 2, none⟩) := hr0 0 (by decide) rfl rfl
            obtain r1 : x0_ 1 = .slice B2 m2 d2 := hr0 1 (by decide) rfl rfl
            obtain r2 : x0_ 2 = .pointer (some ⟨q11, 1, none⟩) := hr0 2 (by decide) rfl rfl
            obtain r3 : x0_ 3 = .slice A2 n2 c2 := hr0 3 (by decide) rfl rfl
            obtain r4 : x0_ 4 = .int .i64 ((kk : Nat) : Int) := hr0 4 (by decide) rfl rfl
            obtain r5 : x0_ 5 = .pointer (some ⟨b103, o104 + kk * 4, none⟩) := hr0 5 (by decide) rfl rfl
            obtain r6 : x0_ 6 = .pointer (some ⟨b103, o104 + kk * 4, none⟩) := hr0 6 (by decide) rfl rfl
            obtain r7 : x0_ 7 = .int .i64 (zs2[kk].f0) := hr0 7 (by decide) rfl rfl
            obtain ⟨q107, r8, g0_q107, h_q107⟩ : ∃ q107, x0_ 8 = .slice (some ⟨q107, 0, none⟩) 1 1 ∧ w99.heap.size ≤ q107 ∧ w108.heap[q107]? = some (.cells #[.int .i64 (zs2[kk].f0)] 3 (0, 0)) := hr0 8 (by decide) rfl rfl
            clear hr0
            have n_q2_q107 : NeB q2 q107 := ⟨fun e => by have := lt_of_block h_q2; omega⟩
            have n_q107_q2 := n_q2_q107.symm
            have n_q4_q107 : NeB q4 q107 := ⟨fun e => by have := lt_of_block h_q4; omega⟩
            have n_q107_q4 := n_q4_q107.symm
            have n_q6_q107 : NeB q6 q107 := ⟨fun e => by have := lt_of_block h_q6; omega⟩
            have n_q107_q6 := n_q6_q107.symm
            have n_q11_q107 : NeB q11 q107 := ⟨fun e => by have := lt_of_block h_q11; omega⟩
            have n_q107_q11 := n_q11_q107.symm
            have d_z9_q107 := own_ne o_z9 (.inr g0_q107)
            have d_y9_q107 := own_ne o_y9 (.inr g0_q107)
            have g_q107 : GeB w.heap.size q107 := ⟨Nat.le_trans hB.size g0_q107⟩
            clear g0_q107
            replace h_q2 := keep_below h_q2 hb_w108
            replace h_q4 := keep_below h_q4 hb_w108
            replace h_q6 := keep_below h_q6 hb_w108
            replace h_q11 := keep_below h_q11 hb_w108
            replace o_z9 := own_below o_z9 hb_w108
            replace o_y9 := own_below o_y9 hb_w108
            replace hB := hB.trans (hb_w108.mono hB.size)
            clear hb_w108
            intro op_ ho_ xv_ ρ hρ qx_ ql_ qk_
            obtain rfl := Option.some.inj ho_
            clear ho_
            have e74 : ρ (.tmp 74) = .slice B2 m2 d2 := (hρ.out 1 74 rfl (by rw [hs.size]; decide) rfl).trans ((qx_ 1 (by decide) rfl rfl).trans r1)
            have e81 : ρ (.tmp 81) = .slice (some ⟨q107, 0, none⟩) 1 1 := (hρ.out 8 81 rfl (by rw [hs.size]; decide) rfl).trans ((qx_ 8 (by decide) rfl rfl).trans r8)
            refine g_append (n' := m2 + 1) (ys := (ds2 ++ ([zs2[kk].f0])).flatMap cI) w.heap.size (.int .i64 0) 1 8 rfl e74 e81 Try.underlying48 infoI64 rfl (by decide) o_y9 (fun h => by cases h) (rd_box (xs := ([zs2[kk].f0]).flatMap cI) h_q107 rfl rfl) (flatI_one _) (by omega) hB.size (by decide) (by omega) (by first | rfl | simp [List.flatMap_append] | (simp [List.flatMap_append, cI]; done)) ?_
            intro A_r109 c_r109 w110 P_r109
            have d_r109_q2 := P_r109.ne d_y9_q2 (lt_of_block h_q2)
            have d_r109_q4 := P_r109.ne d_y9_q4 (lt_of_block h_q4)
            have d_r109_q6 := P_r109.ne d_y9_q6 (lt_of_block h_q6)
            have d_r109_q11 := P_r109.ne d_y9_q11 (lt_of_block h_q11)
            have d_r109_q107 := P_r109.ne d_y9_q107 (lt_of_block h_q107)
            have m_z9_r109 := P_r109.row m_z9_y9 o_z9
            have m_r109_z9 := ne_row_symm m_z9_r109
            have g_r109 := P_r109.ge g_y9 hB.size
            replace h_q2 := keep_grown h_q2 P_r109.grown d_y9_q2
            replace h_q4 := keep_grown h_q4 P_r109.grown d_y9_q4
            replace h_q6 := keep_grown h_q6 P_r109.grown d_y9_q6
            replace h_q11 := keep_grown h_q11 P_r109.grown d_y9_q11
            replace h_q107 := keep_grown h_q107 P_r109.grown d_y9_q107
            replace o_z9 := own_grown o_z9 P_r109.grown m_z9_y9
            replace hB := below_grown hB hB.size P_r109.grown g_y9
            have o_r109 := P_r109.own
            clear P_r109
            clear hρ qx_ ql_ qk_
            clear e74 e81
            intro op_ ho_ xv_ ρ hρ qx_ ql_ qk_
            obtain rfl := Option.some.inj ho_
            clear ho_
            have e5 : ρ (.tmp 5) = .pointer (some ⟨q11, 0, none⟩) := (hρ.inn 5 rfl).trans s5
            refine g_field (r := 2) rfl e5 Try.underlying50 rfl (fun w => Try.sizeOf48 w) rfl rfl ?_
            clear hρ qx_ ql_ qk_
            clear e5
            intro op_ ho_ xv_ ρ hρ qx_ ql_ qk_
            obtain rfl := Option.some.inj ho_
            clear ho_
            have e83 : ρ (.tmp 83) = .pointer (some ⟨q11, 2, none⟩) := (hρ.out 10 83 rfl (by rw [hs.size]; decide) rfl).trans (qk_ (10, _) (by simp))
            have e82 : ρ (.tmp 82) = .slice A_r109 (m2 + 1) c_r109 := (hρ.out 9 82 rfl (by rw [hs.size]; decide) rfl).trans (qk_ (9, _) (by simp))
            refine g_store (cs' := #[.int .i64 room, .slice A2 n2 c2, .slice A_r109 (m2 + 1) c_r109]) rfl e83 e82 Try.sizeOf48 rfl h_q11 (Nat.le_of_ble_eq_true rfl) rfl ?_
            intro w111 W_w111
            replace h_q2 := keep_wrote h_q2 W_w111 n_q11_q2
            replace h_q4 := keep_wrote h_q4 W_w111 n_q11_q4
            replace h_q6 := keep_wrote h_q6 W_w111 n_q11_q6
            replace h_q11 := W_w111.here
            replace h_q107 := keep_wrote h_q107 W_w111 n_q11_q107
            replace o_z9 := own_wrote o_z9 W_w111 d_z9_q11
            replace o_r109 := own_wrote o_r109 W_w111 d_r109_q11
            replace hB := below_wrote hB hB.size W_w111 g_q11.le
            clear W_w111
            clear e82 e83
            clear hρ qx_ ql_ qk_
            intro xv_ a27 hρ hsz hdf qx_ ql_ qk_ qlk_
            replace s2 : a27.eval (.tmp 2) = .pointer (some ⟨q2, 0, none⟩) := (hρ.inn 2 rfl).trans s2
            replace s3 : a27.eval (.tmp 3) = .pointer (some ⟨q4, 0, none⟩) := (hρ.inn 3 rfl).trans s3
            replace s4 : a27.eval (.tmp 4) = .pointer (some ⟨q6, 0, none⟩) := (hρ.inn 4 rfl).trans s4
            replace s5 : a27.eval (.tmp 5) = .pointer (some ⟨q11, 0, none⟩) := (hρ.inn 5 rfl).trans s5
            replace s7 : a27.eval (.tmp 7) = .int .i64 (6 + (((x.f3).length : Nat) : Int)) := (hρ.inn 7 rfl).trans s7
            replace s8 : a27.eval (.tmp 8) = .int .i64 ((kk : Nat) : Int) := (hρ.inn 8 rfl).trans s8
            replace s50 : a27.eval (.tmp 50) = .bool true := (hρ.inn 50 rfl).trans s50
            replace s57 : a27.eval (.tmp 57) = .bool false := (hρ.inn 57 rfl).trans s57
            replace hs : St 109 a27 := ⟨hsz.trans hs.size, hdf.trans hs.nodef⟩
            clear hρ hsz hdf qx_ ql_ qk_ qlk_
            refine hK102 _ _ ?_
            clear hK102
            obtain ⟨A115, hA_v116⟩ : ∃ x_, x_ = tailA 4 A2 c2 (kk + 1) := ⟨_, rfl⟩
            have T_v116 : Tail 4 A2 A115 n2 c2 (kk + 1) := hA_v116 ▸ tailA_of 4 A2 n2 c2 (kk + 1) (own_cap o_z9).1
            refine wp_drawn (n := 109) [] [11, 12, 13] [] (fun k_ v_ wx => match k_ with | 0 => ∃ q112, v_ = .slice (some ⟨q112, 0, none⟩) 0 0 ∧ w111.heap.size ≤ q112 ∧ wx.heap[q112]? = some (.cells #[] 26 (0, 0)) | 1 => v_ = .pointer (some ⟨q11, 1, none⟩) | 2 => v_ = .slice A2 n2 c2 | 3 => v_ = .int .i64 ((kk : Nat) : Int) | 4 => v_ = .slice A2 kk c2 | 5 => ∃ (A_r114 : Option Addr) (c_r114 : Nat), v_ = .slice A_r114 kk c_r114 ∧ ((wx).ownsRow w111.heap.size 26 4 (.slice A_r114 kk c_r114) kk ((zs2.take kk).flatMap cRecord)) | 6 => v_ = .pointer (some ⟨q11, 1, none⟩) | 7 => v_ = .slice A2 n2 c2 | 8 => v_ = .int .i64 ((kk : Nat) : Int) | 9 => v_ = .int .i64 ((kk + 1 : Nat) : Int) | 10 => v_ = .slice A115 (n2 - (kk + 1)) (c2 - (kk + 1)) | _ => True) (by kernel_rfl) (by kernel_rfl) (by kernel_rfl) (by kernel_rfl) hs.size ?_ ?_ ?_
            · intro i v wa wb hb hr
              rcases i with _ | _ | _ | _ | _ | _ | _ | _ | _ | _ | _ | _ | _ | _ | i
              · obtain ⟨q112, hr, hg, hh⟩ := hr; exact ⟨q112, hr, hg, keep_below hh hb⟩
              · exact hr
              · exact hr
              · exact hr
              · exact hr
              · obtain ⟨A, c, hr, ho⟩ := hr; exact ⟨A, c, hr, own_below ho hb⟩
              · exact hr
              · exact hr
              · exact hr
              · exact hr
              · exact hr
              · trivial
              · trivial
              · trivial
              · trivial
            · refine d_step rfl rfl ?_ (d_step rfl rfl ?_ (d_step rfl rfl ?_ (d_step rfl rfl ?_ (d_step rfl rfl ?_ (d_step rfl rfl ?_ (d_step rfl rfl ?_ (d_step rfl rfl ?_ (d_step rfl rfl ?_ (d_step rfl rfl ?_ (d_step rfl rfl ?_ (d_chain rfl (d_chain rfl (d_chain rfl (d_nil))))))))))))))
              · intro xv_ wx ρ hρ hwx hd K hK
                refine g_bslice0 rfl Try.underlying47 Try.sizeOf26 ?_
                intro q w' N
                exact hK _ _ N.below ⟨q, rfl, Nat.le_trans hwx.size N.lo, N.here⟩
              · intro xv_ wx ρ hρ hwx hd K hK
                have e5 : ρ (.tmp 5) = .pointer (some ⟨q11, 0, none⟩) := (hρ.inn 5 rfl).trans s5
                refine g_field (r := 1) rfl e5 Try.underlying50 rfl (fun w => Try.sizeOf47 w) rfl rfl ?_
                exact hK _ _ (Below.refl _ _) rfl
              · intro xv_ wx ρ hρ hwx hd K hK
                obtain r1 : xv_ 1 = .pointer (some ⟨q11, 1, none⟩) := hd 1 rfl
                have e85 : ρ (.tmp 85) = .pointer (some ⟨q11, 1, none⟩) := (hρ.out 1 85 rfl (by rw [hs.size]; decide) rfl).trans r1
                have h_q11 := keep_below h_q11 hwx
                refine g_load rfl e85 Try.isAgg47 (box_cell h_q11 rfl) ?_
                exact hK _ _ (Below.refl _ _) rfl
              · intro xv_ wx ρ hρ hwx hd K hK
                have e8 : ρ (.tmp 8) = .int .i64 ((kk : Nat) : Int) := (hρ.inn 8 rfl).trans s8
                refine g_move rfl e8 ?_
                exact hK _ _ (Below.refl _ _) rfl
              · intro xv_ wx ρ hρ hwx hd K hK
                obtain r2 : xv_ 2 = .slice A2 n2 c2 := hd 2 rfl
                have e86 : ρ (.tmp 86) = .slice A2 n2 c2 := (hρ.out 2 86 rfl (by rw [hs.size]; decide) rfl).trans r2
                obtain r3 : xv_ 3 = .int .i64 ((kk : Nat) : Int) := hd 3 rfl
                have e87 : ρ (.tmp 87) = .int .i64 ((kk : Nat) : Int) := (hρ.out 3 87 rfl (by rw [hs.size]; decide) rfl).trans r3
                refine g_head rfl e86 e87 Try.underlying47 (fun w => Try.sizeOf26 w) (by have := (own_cap o_z9).1; omega) ?_
                exact hK _ _ (Below.refl _ _) rfl
              · intro xv_ wx ρ hρ hwx hd K hK
                obtain ⟨q112, r0, g0_q112, h_q112⟩ : ∃ q112, xv_ 0 = .slice (some ⟨q112, 0, none⟩) 0 0 ∧ w111.heap.size ≤ q112 ∧ wx.heap[q112]? = some (.cells #[] 26 (0, 0)) := hd 0 rfl
                have e84 : ρ (.tmp 84) = .slice (some ⟨q112, 0, none⟩) 0 0 := (hρ.out 0 84 rfl (by rw [hs.size]; decide) rfl).trans r0
                obtain r4 : xv_ 4 = .slice A2 kk c2 := hd 4 rfl
                have e88 : ρ (.tmp 88) = .slice A2 kk c2 := (hρ.out 4 88 rfl (by rw [hs.size]; decide) rfl).trans r4
                refine g_append_fresh (news := (zs2.take kk).flatMap cRecord) w111.heap.size (.agg #[.int .i64 0, .int .i64 0, .int .i64 0, .string ⟨#[]⟩]) 4 40 rfl e84 e88 Try.underlying47 infoRecord rfl (by decide) g0_q112 h_q112 (fun h => by have hz := (own_nil o_z9) h; omega) ((Rd.take cRecord_len (Rd.of_own o_z9) hn2 (by omega)).below hwx) (flatRecord_one _) (by omega) hwx.size (by decide) ?_
                intro A c w' ho hb
                exact hK _ _ hb ⟨A, c, rfl, ho⟩
              · intro xv_ wx ρ hρ hwx hd K hK
                have e5 : ρ (.tmp 5) = .pointer (some ⟨q11, 0, none⟩) := (hρ.inn 5 rfl).trans s5
                refine g_field (r := 1) rfl e5 Try.underlying50 rfl (fun w => Try.sizeOf47 w) rfl rfl ?_
                exact hK _ _ (Below.refl _ _) rfl
              · intro xv_ wx ρ hρ hwx hd K hK
                obtain r6 : xv_ 6 = .pointer (some ⟨q11, 1, none⟩) := hd 6 rfl
                have e90 : ρ (.tmp 90) = .pointer (some ⟨q11, 1, none⟩) := (hρ.out 6 90 rfl (by rw [hs.size]; decide) rfl).trans r6
                have h_q11 := keep_below h_q11 hwx
                refine g_load rfl e90 Try.isAgg47 (box_cell h_q11 rfl) ?_
                exact hK _ _ (Below.refl _ _) rfl
              · intro xv_ wx ρ hρ hwx hd K hK
                have e8 : ρ (.tmp 8) = .int .i64 ((kk : Nat) : Int) := (hρ.inn 8 rfl).trans s8
                refine g_move rfl e8 ?_
                exact hK _ _ (Below.refl _ _) rfl
              · intro xv_ wx ρ hρ hwx hd K hK
                obtain r8 : xv_ 8 = .int .i64 ((kk : Nat) : Int) := hd 8 rfl
                have e92 : ρ (.tmp 92) = .int .i64 ((kk : Nat) : Int) := (hρ.out 8 92 rfl (by rw [hs.size]; decide) rfl).trans r8
                refine g_add (r := ((kk + 1 : Nat) : Int)) rfl e92 ((hρ.cst _)) (by omega) (by omega) ?_
                exact hK _ _ (Below.refl _ _) rfl
              · intro xv_ wx ρ hρ hwx hd K hK
                obtain r7 : xv_ 7 = .slice A2 n2 c2 := hd 7 rfl
                have e91 : ρ (.tmp 91) = .slice A2 n2 c2 := (hρ.out 7 91 rfl (by rw [hs.size]; decide) rfl).trans r7
                obtain r9 : xv_ 9 = .int .i64 ((kk + 1 : Nat) : Int) := hd 9 rfl
                have e93 : ρ (.tmp 93) = .int .i64 ((kk + 1 : Nat) : Int) := (hρ.out 9 93 rfl (by rw [hs.size]; decide) rfl).trans r9
                refine g_tailD rfl e91 e93 Try.underlying47 (fun w => Try.sizeOf26 w) (by omega) rfl rfl hA_v116 ?_
                exact hK _ _ (Below.refl _ _) rfl
            · intro x0_ w117 hb_w117 hr0
              obtain ⟨q112, r0, g0_q112, h_q112⟩ : ∃ q112, x0_ 0 = .slice (some ⟨q112, 0, none⟩) 0 0 ∧ w111.heap.size ≤ q112 ∧ w117.heap[q112]? = some (.cells #[] 26 (0, 0)) := hr0 0 (by decide) rfl rfl
              obtain r1 : x0_ 1 = .pointer (some ⟨q11, 1, none⟩) := hr0 1 (by decide) rfl rfl
              obtain r2 : x0_ 2 = .slice A2 n2 c2 := hr0 2 (by decide) rfl rfl
              obtain r3 : x0_ 3 = .int .i64 ((kk : Nat) : Int) := hr0 3 (by decide) rfl rfl
              obtain r4 : x0_ 4 = .slice A2 kk c2 := hr0 4 (by decide) rfl rfl
              obtain ⟨A_r114, c_r114, r5, o_r114⟩ : ∃ (A_r114 : Option Addr) (c_r114 : Nat), x0_ 5 = .slice A_r114 kk c_r114 ∧ ((w117).ownsRow w111.heap.size 26 4 (.slice A_r114 kk c_r114) kk ((zs2.take kk).flatMap cRecord)) := hr0 5 (by decide) rfl rfl
              obtain r6 : x0_ 6 = .pointer (some ⟨q11, 1, none⟩) := hr0 6 (by decide) rfl rfl
              obtain r7 : x0_ 7 = .slice A2 n2 c2 := hr0 7 (by decide) rfl rfl
              obtain r8 : x0_ 8 = .int .i64 ((kk : Nat) : Int) := hr0 8 (by decide) rfl rfl
              obtain r9 : x0_ 9 = .int .i64 ((kk + 1 : Nat) : Int) := hr0 9 (by decide) rfl rfl
              obtain r10 : x0_ 10 = .slice A115 (n2 - (kk + 1)) (c2 - (kk + 1)) := hr0 10 (by decide) rfl rfl
              clear hr0
              have d_r114_q2 := own_ne_box o_r114 (lt_of_block h_q2)
              have d_r114_q4 := own_ne_box o_r114 (lt_of_block h_q4)
              have d_r114_q6 := own_ne_box o_r114 (lt_of_block h_q6)
              have d_r114_q11 := own_ne_box o_r114 (lt_of_block h_q11)
              have d_r114_q107 := own_ne_box o_r114 (lt_of_block h_q107)
              have m_z9_r114 := own_ne_row o_z9 o_r114 (Nat.le_refl _)
              have m_r114_z9 := ne_row_symm m_z9_r114
              have m_r109_r114 := own_ne_row o_r109 o_r114 (Nat.le_refl _)
              have m_r114_r109 := ne_row_symm m_r109_r114
              have g_r114 : ∀ b, (A_r114 : Option Addr).map (·.block) = some b → w.heap.size ≤ b := fun b h => Nat.le_trans hB.size (own_row o_r114 b h).1
              replace o_r114 := own_base (base := w.heap.size) o_r114 hB.size
              replace h_q2 := keep_below h_q2 hb_w117
              replace h_q4 := keep_below h_q4 hb_w117
              replace h_q6 := keep_below h_q6 hb_w117
              replace h_q11 := keep_below h_q11 hb_w117
              replace h_q107 := keep_below h_q107 hb_w117
              replace o_z9 := own_below o_z9 hb_w117
              replace o_r109 := own_below o_r109 hb_w117
              replace hB := hB.trans (hb_w117.mono hB.size)
              clear hb_w117
              intro op_ ho_ xv_ ρ hρ qx_ ql_ qk_
              obtain rfl := Option.some.inj ho_
              clear ho_
              have e89 : ρ (.tmp 89) = .slice A_r114 kk c_r114 := (hρ.out 5 89 rfl (by rw [hs.size]; decide) rfl).trans ((qx_ 5 (by decide) rfl rfl).trans r5)
              have e94 : ρ (.tmp 94) = .slice A115 (n2 - (kk + 1)) (c2 - (kk + 1)) := (hρ.out 10 94 rfl (by rw [hs.size]; decide) rfl).trans ((qx_ 10 (by decide) rfl rfl).trans r10)
              refine g_append (n' := kk + (n2 - (kk + 1))) (ys := ((zs2.take kk) ++ (zs2.drop (kk + 1))).flatMap cRecord) w.heap.size (.agg #[.int .i64 0, .int .i64 0, .int .i64 0, .string ⟨#[]⟩]) 4 40 rfl e89 e94 Try.underlying47 infoRecord rfl (by decide) o_r114 (fun h => by have hz := (own_nil o_z9) (T_v116.nil h); omega) (T_v116.rd cRecord_len hn2 (by omega) (Rd.of_own o_z9)) (flatRecord_one _) (by omega) hB.size (by decide) (by omega) (by first | rfl | simp [List.flatMap_append] | (simp [List.flatMap_append, cRecord]; done)) ?_
              intro A_r118 c_r118 w119 P_r118
              have d_r118_q2 := P_r118.ne d_r114_q2 (lt_of_block h_q2)
              have d_r118_q4 := P_r118.ne d_r114_q4 (lt_of_block h_q4)
              have d_r118_q6 := P_r118.ne d_r114_q6 (lt_of_block h_q6)
              have d_r118_q11 := P_r118.ne d_r114_q11 (lt_of_block h_q11)
              have d_r118_q107 := P_r118.ne d_r114_q107 (lt_of_block h_q107)
              have m_z9_r118 := P_r118.row m_z9_r114 o_z9
              have m_r118_z9 := ne_row_symm m_z9_r118
              have m_r109_r118 := P_r118.row m_r109_r114 o_r109
              have m_r118_r109 := ne_row_symm m_r109_r118
              have g_r118 := P_r118.ge g_r114 hB.size
              replace h_q2 := keep_grown h_q2 P_r118.grown d_r114_q2
              replace h_q4 := keep_grown h_q4 P_r118.grown d_r114_q4
              replace h_q6 := keep_grown h_q6 P_r118.grown d_r114_q6
              replace h_q11 := keep_grown h_q11 P_r118.grown d_r114_q11
              replace h_q107 := keep_grown h_q107 P_r118.grown d_r114_q107
              replace o_z9 := own_grown o_z9 P_r118.grown m_z9_r114
              replace o_r109 := own_grown o_r109 P_r118.grown m_r109_r114
              replace hB := below_grown hB hB.size P_r118.grown g_r114
              have o_r118 := P_r118.own
              clear P_r118
              clear hρ qx_ ql_ qk_
              clear e89 e94
              intro op_ ho_ xv_ ρ hρ qx_ ql_ qk_
              obtain rfl := Option.some.inj ho_
              clear ho_
              have e5 : ρ (.tmp 5) = .pointer (some ⟨q11, 0, none⟩) := (hρ.inn 5 rfl).trans s5
              refine g_field (r := 1) rfl e5 Try.underlying50 rfl (fun w => Try.sizeOf47 w) rfl rfl ?_
              clear hρ qx_ ql_ qk_
              clear e5
              intro op_ ho_ xv_ ρ hρ qx_ ql_ qk_
              obtain rfl := Option.some.inj ho_
              clear ho_
              have e96 : ρ (.tmp 96) = .pointer (some ⟨q11, 1, none⟩) := (hρ.out 12 96 rfl (by rw [hs.size]; decide) rfl).trans (qk_ (12, _) (by simp))
              have e95 : ρ (.tmp 95) = .slice A_r118 (kk + (n2 - (kk + 1))) c_r118 := (hρ.out 11 95 rfl (by rw [hs.size]; decide) rfl).trans (qk_ (11, _) (by simp))
              refine g_store (cs' := #[.int .i64 room, .slice A_r118 (kk + (n2 - (kk + 1))) c_r118, .slice A_r109 (m2 + 1) c_r109]) rfl e96 e95 Try.sizeOf47 rfl h_q11 (Nat.le_of_ble_eq_true rfl) rfl ?_
              intro w120 W_w120
              replace h_q2 := keep_wrote h_q2 W_w120 n_q11_q2
              replace h_q4 := keep_wrote h_q4 W_w120 n_q11_q4
              replace h_q6 := keep_wrote h_q6 W_w120 n_q11_q6
              replace h_q11 := W_w120.here
              replace h_q107 := keep_wrote h_q107 W_w120 n_q11_q107
              replace o_z9 := own_wrote o_z9 W_w120 d_z9_q11
              replace o_r109 := own_wrote o_r109 W_w120 d_r109_q11
              replace o_r118 := own_wrote o_r118 W_w120 d_r118_q11
              replace hB := below_wrote hB hB.size W_w120 g_q11.le
              clear W_w120
              clear e95 e96
              clear hρ qx_ ql_ qk_
              intro xv_ a28 hρ hsz hdf qx_ ql_ qk_ qlk_
              replace s2 : a28.eval (.tmp 2) = .pointer (some ⟨q2, 0, none⟩) := (hρ.inn 2 rfl).trans s2
              replace s3 : a28.eval (.tmp 3) = .pointer (some ⟨q4, 0, none⟩) := (hρ.inn 3 rfl).trans s3
              replace s4 : a28.eval (.tmp 4) = .pointer (some ⟨q6, 0, none⟩) := (hρ.inn 4 rfl).trans s4
              replace s5 : a28.eval (.tmp 5) = .pointer (some ⟨q11, 0, none⟩) := (hρ.inn 5 rfl).trans s5
              replace s7 : a28.eval (.tmp 7) = .int .i64 (6 + (((x.f3).length : Nat) : Int)) := (hρ.inn 7 rfl).trans s7
              replace s8 : a28.eval (.tmp 8) = .int .i64 ((kk : Nat) : Int) := (hρ.inn 8 rfl).trans s8
              replace s50 : a28.eval (.tmp 50) = .bool true := (hρ.inn 50 rfl).trans s50
              replace s57 : a28.eval (.tmp 57) = .bool false := (hρ.inn 57 rfl).trans s57
              replace hs : St 109 a28 := ⟨hsz.trans hs.size, hdf.trans hs.nodef⟩
              clear hρ hsz hdf qx_ ql_ qk_ qlk_
              have hee : zs2.take kk ++ zs2.drop (kk + 1) = zs2.eraseIdx kk := (List.eraseIdx_eq_take_drop_succ ..).symm
              have hue := usedN_erase hkl
              have hle3 := lesS_erase hkl hkp
              have hle4 : (zs2.eraseIdx kk).length = n2 - 1 := by rw [List.length_eraseIdx, if_pos hkl]; omega
              have o_z9 := o_r118
              have g_z9 := g_r118
              have d_z9_q2 := d_r118_q2
              have d_z9_q4 := d_r118_q4
              have d_z9_q6 := d_r118_q6
              have d_z9_q11 := d_r118_q11
              have m_y9_z9 := m_r109_r118
              have m_z9_y9 := m_r118_r109
              have o_y9 := o_r109
              have g_y9 := g_r109
              have d_y9_q2 := d_r109_q2
              have d_y9_q4 := d_r109_q4
              have d_y9_q6 := d_r109_q6
              have d_y9_q11 := d_r109_q11
              have m_z9_y9 := m_r118_r109
              have m_y9_z9 := m_r109_r118
              refine show _ ∧ _ from ⟨⟨zs2.take kk ++ zs2.drop (kk + 1), kk + (n2 - (kk + 1)), ds2 ++ [zs2[kk].f0], m2 + 1, _, _, _, _, hs, s2, s3, s4, s5, s7, hB, h_q2, h_q4, h_q6, h_q11, o_z9, o_y9, d_z9_q2, d_z9_q4, d_z9_q6, d_z9_q11, m_y9_z9, g_z9, d_y9_q2, d_y9_q4, d_y9_q6, d_y9_q11, m_z9_y9, g_y9, (by rw [hee, hle4]; omega), (by simp [hm2]), trivial, (by rw [hee]; omega), (by rw [hee]; exact fun z hz => hT2 z (List.mem_of_mem_eraseIdx hz)), (by omega), (by omega), (by rw [hee]; omega)⟩, ?_⟩
              show lenAt w120 q11 1 < lenAt w65 q11 1
              rw [lenAt_of h_q11 rfl, lenAt_of mu0 rfl]
              omega
  clear hK15
  refine wp_seq_k fun K121 hK121 => ?_
  cases hok : rcOk room zs ds
  · refine wp_drawn (n := 109) [] [] [] (fun k_ v_ _wx => match k_ with | 0 => v_ = .agg #[.int .i64 room, .slice A zs.length cp, .slice B ds.length dp] | 1 => v_ = .bool false | 2 => v_ = .bool true | 3 => v_ = .bool true | 7 => v_ = .bool true | 8 => v_ = .bool true | 11 => v_ = undef | 23 => v_ = .bool true | _ => True) (by kernel_rfl) (by kernel_rfl) (by kernel_rfl) (by kernel_rfl) hs.size ?_ ?_ ?_
    · intro i v wa wb hb hr
      rcases i with _ | _ | _ | _ | _ | _ | _ | _ | _ | _ | _ | _ | _ | _ | _ | _ | _ | _ | _ | _ | _ | _ | _ | _ | i
      · exact hr
      · exact hr
      · exact hr
      · exact hr
      · trivial
      · trivial
      · trivial
      · exact hr
      · exact hr
      · trivial
      · trivial
      · exact hr
      · trivial
      · trivial
      · trivial
      · trivial
      · trivial
      · trivial
      · trivial
      · trivial
      · trivial
      · trivial
      · trivial
      · exact hr
      · trivial
    · refine d_step rfl rfl ?_ (d_step rfl rfl ?_ (d_step rfl rfl ?_ (d_step rfl rfl ?_ (d_skip 3 false 17 rfl rfl rfl (fun v w h => Or.inl h) (fun w => trivial) (d_skip 3 false 17 rfl rfl rfl (fun v w h => Or.inl h) (fun w => trivial) (d_skip 3 false 17 rfl rfl rfl (fun v w h => Or.inl h) (fun w => trivial) (d_step rfl rfl ?_ (d_step rfl rfl ?_ (d_skip 8 false 22 rfl rfl rfl (fun v w h => Or.inl h) (fun w => trivial) (d_skip 8 false 22 rfl rfl rfl (fun v w h => Or.inl h) (fun w => trivial) (d_skip 8 false 22 rfl rfl rfl (fun v w h => Or.inl h) (fun w => rfl) (d_skip 11 true 25 rfl rfl rfl (fun v w h => Or.inr h) (fun w => trivial) (d_skip 11 true 25 rfl rfl rfl (fun v w h => Or.inr h) (fun w => trivial) (d_skip 11 true 25 rfl rfl rfl (fun v w h => Or.inr h) (fun w => trivial) (d_skip 11 true 25 rfl rfl rfl (fun v w h => Or.inr h) (fun w => trivial) (d_skip 11 true 25 rfl rfl rfl (fun v w h => Or.inr h) (fun w => trivial) (d_skip 11 true 25 rfl rfl rfl (fun v w h => Or.inr h) (fun w => trivial) (d_skip 11 true 25 rfl rfl rfl (fun v w h => Or.inr h) (fun w => trivial) (d_skip 11 true 25 rfl rfl rfl (fun v w h => Or.inr h) (fun w => trivial) (d_skip 11 true 25 rfl rfl rfl (fun v w h => Or.inr h) (fun w => trivial) (d_skip 11 true 25 rfl rfl rfl (fun v w h => Or.inr h) (fun w => trivial) (d_skip 8 false 22 rfl rfl rfl (fun v w h => Or.inl h) (fun w => trivial) (d_step rfl rfl ?_ (d_nil))))))))))))))))))))))))
      · intro xv_ wx ρ hρ hwx hd K hK
        have e2 : ρ (.tmp 2) = .pointer (some ⟨q2, 0, none⟩) := (hρ.inn 2 rfl).trans s2
        have h_q2 := keep_below h_q2 hwx
        refine g_loadB rfl e2 Try.isAgg50 Try.sizeOf50 rfl h_q2 ?_
        exact hK _ _ (Below.refl _ _) rfl
      · intro xv_ wx ρ hρ hwx hd K hK
        obtain r0 : xv_ 0 = .agg #[.int .i64 room, .slice A zs.length cp, .slice B ds.length dp] := hd 0 rfl
        have e14 : ρ (.tmp 14) = .agg #[.int .i64 room, .slice A zs.length cp, .slice B ds.length dp] := (hρ.out 0 14 rfl (by rw [hs.size]; decide) rfl).trans r0
        refine g_call rfl (hρ.fn _) Try.call41 (arr1 e14) ?_
        refine (sRecorderOk_any _ _ _ _ _ _ _ zs ds _ rfl (by omega) hT ((hr_z.below hB).below hwx) rfl (by omega) ((hr_d.below hB).below hwx)).mono ?_
        rintro e wy ⟨rfl, hb123⟩
        exact ⟨_, rfl, hK _ _ hb123 (congrArg Value.bool hok)⟩
      · intro xv_ wx ρ hρ hwx hd K hK
        obtain r1 : xv_ 1 = .bool false := hd 1 rfl
        have e15 : ρ (.tmp 15) = .bool false := (hρ.out 1 15 rfl (by rw [hs.size]; decide) rfl).trans r1
        refine g_not rfl e15 ?_
        exact hK _ _ (Below.refl _ _) rfl
      · intro xv_ wx ρ hρ hwx hd K hK
        obtain r2 : xv_ 2 = .bool true := hd 2 rfl
        have e16 : ρ (.tmp 16) = .bool true := (hρ.out 2 16 rfl (by rw [hs.size]; decide) rfl).trans r2
        refine g_move rfl e16 ?_
        exact hK _ _ (Below.refl _ _) rfl
      · intro xv_ wx ρ hρ hwx hd K hK
        obtain r3 : xv_ 3 = .bool true := hd 3 rfl
        have e17 : ρ (.tmp 17) = .bool true := (hρ.out 3 17 rfl (by rw [hs.size]; decide) rfl).trans r3
        refine g_pick_t rfl e17 ((hρ.cst _)) ?_
        exact hK _ _ (Below.refl _ _) rfl
      · intro xv_ wx ρ hρ hwx hd K hK
        obtain r7 : xv_ 7 = .bool true := hd 7 rfl
        have e21 : ρ (.tmp 21) = .bool true := (hρ.out 7 21 rfl (by rw [hs.size]; decide) rfl).trans r7
        refine g_move rfl e21 ?_
        exact hK _ _ (Below.refl _ _) rfl
      · intro xv_ wx ρ hρ hwx hd K hK
        obtain r8 : xv_ 8 = .bool true := hd 8 rfl
        have e22 : ρ (.tmp 22) = .bool true := (hρ.out 8 22 rfl (by rw [hs.size]; decide) rfl).trans r8
        refine g_pick_t rfl e22 ((hρ.cst _)) ?_
        exact hK _ _ (Below.refl _ _) rfl
    · intro x0_ w124 hb_w124 hr0
      obtain r0 : x0_ 0 = .agg #[.int .i64 room, .slice A zs.length cp, .slice B ds.length dp] := hr0 0 (by decide) rfl rfl
      obtain r1 : x0_ 1 = .bool false := hr0 1 (by decide) rfl rfl
      obtain r2 : x0_ 2 = .bool true := hr0 2 (by decide) rfl rfl
      obtain r3 : x0_ 3 = .bool true := hr0 3 (by decide) rfl rfl
      obtain r7 : x0_ 7 = .bool true := hr0 7 (by decide) rfl rfl
      obtain r8 : x0_ 8 = .bool true := hr0 8 (by decide) rfl rfl
      obtain r23 : x0_ 23 = .bool true := hr0 23 (by decide) rfl rfl
      clear hr0
      replace h_q2 := keep_below h_q2 hb_w124
      replace h_q4 := keep_below h_q4 hb_w124
      replace h_q6 := keep_below h_q6 hb_w124
      replace h_q11 := keep_below h_q11 hb_w124
      replace o_z9 := own_below o_z9 hb_w124
      replace o_y9 := own_below o_y9 hb_w124
      replace hB := hB.trans (hb_w124.mono hB.size)
      clear hb_w124
      intro xv_ a11 hρ hsz hdf qx_ ql_ qk_ qlk_
      replace s2 : a11.eval (.tmp 2) = .pointer (some ⟨q2, 0, none⟩) := (hρ.inn 2 rfl).trans s2
      replace s3 : a11.eval (.tmp 3) = .pointer (some ⟨q4, 0, none⟩) := (hρ.inn 3 rfl).trans s3
      replace s4 : a11.eval (.tmp 4) = .pointer (some ⟨q6, 0, none⟩) := (hρ.inn 4 rfl).trans s4
      replace s5 : a11.eval (.tmp 5) = .pointer (some ⟨q11, 0, none⟩) := (hρ.inn 5 rfl).trans s5
      have s37 : a11.eval (.tmp 37) = .bool true := (hρ.out 23 37 rfl (by rw [hs.size]; decide)).trans ((qx_ 23 (by decide) rfl rfl).trans r23)
      replace hs : St 109 a11 := ⟨hsz.trans hs.size, hdf.trans hs.nodef⟩
      clear hρ hsz hdf qx_ ql_ qk_ qlk_
      refine hK121 _ _ ?_
      clear hK121
      refine c_true s37 ?_
      refine wp_seq_k fun K125 hK125 => ?_
      refine wp_region_lit ?_
      refine q_val rfl rfl ?_
      refine g_loadB rfl s5 Try.isAgg50 Try.sizeOf50 rfl h_q11 ?_
      intro a12 p12
      have s38 : a12.eval (.tmp 38) = .agg #[.int .i64 room, .slice A9 zs.length c9, .slice B9 ds.length d9] := p12.at hs (by decide)
      replace hs := p12.st hs
      refine q_eff rfl rfl ?_
      refine g_storeB rfl ((p12.ne rfl).trans s4) s38 Try.sizeOf50 rfl rfl h_q6 rfl ?_
      intro w126 W_w126
      replace h_q2 := keep_wrote h_q2 W_w126 n_q6_q2
      replace h_q4 := keep_wrote h_q4 W_w126 n_q6_q4
      replace h_q6 := W_w126.here
      replace h_q11 := keep_wrote h_q11 W_w126 n_q6_q11
      replace o_z9 := own_wrote o_z9 W_w126 d_z9_q6
      replace o_y9 := own_wrote o_y9 W_w126 d_y9_q6
      replace hB := below_wrote hB hB.size W_w126 g_q6.le
      clear W_w126
      refine wpList_nil ?_
      replace s2 : a12.eval (.tmp 2) = .pointer (some ⟨q2, 0, none⟩) := (p12.ne rfl).trans s2
      replace s3 : a12.eval (.tmp 3) = .pointer (some ⟨q4, 0, none⟩) := (p12.ne rfl).trans s3
      replace s4 : a12.eval (.tmp 4) = .pointer (some ⟨q6, 0, none⟩) := (p12.ne rfl).trans s4
      replace s5 : a12.eval (.tmp 5) = .pointer (some ⟨q11, 0, none⟩) := (p12.ne rfl).trans s5
      refine hK125 _ _ ?_
      clear hK125
      refine wp_ret ?_
      try dsimp only [Exit.then, Exit.inBlock]
      refine ret1 hs Try.results51 (res_cell s4 h_q6 Try.isAgg50 Try.sizeOf50 rfl) ?_
      refine ⟨_, rfl, ?_, hB⟩
      rw [keepR_no (by unfold kOk; rw [hok]; rfl)]
      exact ⟨_, _, _, _, _, _, rfl, rfl, rfl, o_z9, o_y9⟩
  · cases hrok : recOk x.f0 x.f1 x.f2 x.f3
    · refine wp_drawn (n := 109) [] [] [] (fun k_ v_ _wx => match k_ with | 0 => v_ = .agg #[.int .i64 room, .slice A zs.length cp, .slice B ds.length dp] | 1 => v_ = .bool true | 2 => v_ = .bool false | 3 => v_ = .bool false | 4 => v_ = .agg #[.int .i64 x.f0, .int .i64 x.f1, .int .i64 x.f2, .string ⟨(x.f3).toArray⟩] | 5 => v_ = .bool false | 6 => v_ = .bool true | 7 => v_ = .bool true | 8 => v_ = .bool true | 11 => v_ = undef | 23 => v_ = .bool true | _ => True) (by kernel_rfl) (by kernel_rfl) (by kernel_rfl) (by kernel_rfl) hs.size ?_ ?_ ?_
      · intro i v wa wb hb hr
        rcases i with _ | _ | _ | _ | _ | _ | _ | _ | _ | _ | _ | _ | _ | _ | _ | _ | _ | _ | _ | _ | _ | _ | _ | _ | i
        · exact hr
        · exact hr
        · exact hr
        · exact hr
        · exact hr
        · exact hr
        · exact hr
        · exact hr
        · exact hr
        · trivial
        · trivial
        · exact hr
        · trivial
        · trivial
        · trivial
        · trivial
        · trivial
        · trivial
        · trivial
        · trivial
        · trivial
        · trivial
        · trivial
        · exact hr
        · trivial
      · refine d_step rfl rfl ?_ (d_step rfl rfl ?_ (d_step rfl rfl ?_ (d_step rfl rfl ?_ (d_take rfl 3 false 17 rfl rfl rfl (fun v w h => h) ?_ (d_take rfl 3 false 17 rfl rfl rfl (fun v w h => h) ?_ (d_take rfl 3 false 17 rfl rfl rfl (fun v w h => h) ?_ (d_step rfl rfl ?_ (d_step rfl rfl ?_ (d_skip 8 false 22 rfl rfl rfl (fun v w h => Or.inl h) (fun w => trivial) (d_skip 8 false 22 rfl rfl rfl (fun v w h => Or.inl h) (fun w => trivial) (d_skip 8 false 22 rfl rfl rfl (fun v w h => Or.inl h) (fun w => rfl) (d_skip 11 true 25 rfl rfl rfl (fun v w h => Or.inr h) (fun w => trivial) (d_skip 11 true 25 rfl rfl rfl (fun v w h => Or.inr h) (fun w => trivial) (d_skip 11 true 25 rfl rfl rfl (fun v w h => Or.inr h) (fun w => trivial) (d_skip 11 true 25 rfl rfl rfl (fun v w h => Or.inr h) (fun w => trivial) (d_skip 11 true 25 rfl rfl rfl (fun v w h => Or.inr h) (fun w => trivial) (d_skip 11 true 25 rfl rfl rfl (fun v w h => Or.inr h) (fun w => trivial) (d_skip 11 true 25 rfl rfl rfl (fun v w h => Or.inr h) (fun w => trivial) (d_skip 11 true 25 rfl rfl rfl (fun v w h => Or.inr h) (fun w => trivial) (d_skip 11 true 25 rfl rfl rfl (fun v w h => Or.inr h) (fun w => trivial) (d_skip 11 true 25 rfl rfl rfl (fun v w h => Or.inr h) (fun w => trivial) (d_skip 8 false 22 rfl rfl rfl (fun v w h => Or.inl h) (fun w => trivial) (d_step rfl rfl ?_ (d_nil))))))))))))))))))))))))
        · intro xv_ wx ρ hρ hwx hd K hK
          have e2 : ρ (.tmp 2) = .pointer (some ⟨q2, 0, none⟩) := (hρ.inn 2 rfl).trans s2
          have h_q2 := keep_below h_q2 hwx
          refine g_loadB rfl e2 Try.isAgg50 Try.sizeOf50 rfl h_q2 ?_
          exact hK _ _ (Below.refl _ _) rfl
        · intro xv_ wx ρ hρ hwx hd K hK
          obtain r0 : xv_ 0 = .agg #[.int .i64 room, .slice A zs.length cp, .slice B ds.length dp] := hd 0 rfl
          have e14 : ρ (.tmp 14) = .agg #[.int .i64 room, .slice A zs.length cp, .slice B ds.length dp] := (hρ.out 0 14 rfl (by rw [hs.size]; decide) rfl).trans r0
          refine g_call rfl (hρ.fn _) Try.call41 (arr1 e14) ?_
          refine (sRecorderOk_any _ _ _ _ _ _ _ zs ds _ rfl (by omega) hT ((hr_z.below hB).below hwx) rfl (by omega) ((hr_d.below hB).below hwx)).mono ?_
          rintro e wy ⟨rfl, hb129⟩
          exact ⟨_, rfl, hK _ _ hb129 (congrArg Value.bool hok)⟩
        · intro xv_ wx ρ hρ hwx hd K hK
          obtain r1 : xv_ 1 = .bool true := hd 1 rfl
          have e15 : ρ (.tmp 15) = .bool true := (hρ.out 1 15 rfl (by rw [hs.size]; decide) rfl).trans r1
          refine g_not rfl e15 ?_
          exact hK _ _ (Below.refl _ _) rfl
        · intro xv_ wx ρ hρ hwx hd K hK
          obtain r2 : xv_ 2 = .bool false := hd 2 rfl
          have e16 : ρ (.tmp 16) = .bool false := (hρ.out 2 16 rfl (by rw [hs.size]; decide) rfl).trans r2
          refine g_move rfl e16 ?_
          exact hK _ _ (Below.refl _ _) rfl
        · intro xv_ wx ρ hρ hwx hd K hK
          have e3 : ρ (.tmp 3) = .pointer (some ⟨q4, 0, none⟩) := (hρ.inn 3 rfl).trans s3
          have h_q4 := keep_below h_q4 hwx
          refine g_loadB rfl e3 Try.isAgg26 Try.sizeOf26 rfl h_q4 ?_
          exact hK _ _ (Below.refl _ _) rfl
        · intro xv_ wx ρ hρ hwx hd K hK
          obtain r4 : xv_ 4 = .agg #[.int .i64 x.f0, .int .i64 x.f1, .int .i64 x.f2, .string ⟨(x.f3).toArray⟩] := hd 4 rfl
          have e18 : ρ (.tmp 18) = .agg #[.int .i64 x.f0, .int .i64 x.f1, .int .i64 x.f2, .string ⟨(x.f3).toArray⟩] := (hρ.out 4 18 rfl (by rw [hs.size]; decide) rfl).trans r4
          refine g_call rfl (hρ.fn _) Try.call16 (arr1 e18) ?_
          refine (sRecordOk_any _ _ _ _ _ hTx).mono ?_
          rintro e wy ⟨rfl, hb130⟩
          exact ⟨_, rfl, hK _ _ hb130 (congrArg Value.bool hrok)⟩
        · intro xv_ wx ρ hρ hwx hd K hK
          obtain r5 : xv_ 5 = .bool false := hd 5 rfl
          have e19 : ρ (.tmp 19) = .bool false := (hρ.out 5 19 rfl (by rw [hs.size]; decide) rfl).trans r5
          refine g_not rfl e19 ?_
          exact hK _ _ (Below.refl _ _) rfl
        · intro xv_ wx ρ hρ hwx hd K hK
          obtain r3 : xv_ 3 = .bool false := hd 3 rfl
          have e17 : ρ (.tmp 17) = .bool false := (hρ.out 3 17 rfl (by rw [hs.size]; decide) rfl).trans r3
          obtain r6 : xv_ 6 = .bool true := hd 6 rfl
          have e20 : ρ (.tmp 20) = .bool true := (hρ.out 6 20 rfl (by rw [hs.size]; decide) rfl).trans r6
          refine g_pick_f rfl e17 e20 ?_
          exact hK _ _ (Below.refl _ _) rfl
        · intro xv_ wx ρ hρ hwx hd K hK
          obtain r7 : xv_ 7 = .bool true := hd 7 rfl
          have e21 : ρ (.tmp 21) = .bool true := (hρ.out 7 21 rfl (by rw [hs.size]; decide) rfl).trans r7
          refine g_move rfl e21 ?_
          exact hK _ _ (Below.refl _ _) rfl
        · intro xv_ wx ρ hρ hwx hd K hK
          obtain r8 : xv_ 8 = .bool true := hd 8 rfl
          have e22 : ρ (.tmp 22) = .bool true := (hρ.out 8 22 rfl (by rw [hs.size]; decide) rfl).trans r8
          refine g_pick_t rfl e22 ((hρ.cst _)) ?_
          exact hK _ _ (Below.refl _ _) rfl
      · intro x0_ w131 hb_w131 hr0
        obtain r0 : x0_ 0 = .agg #[.int .i64 room, .slice A zs.length cp, .slice B ds.length dp] := hr0 0 (by decide) rfl rfl
        obtain r1 : x0_ 1 = .bool true := hr0 1 (by decide) rfl rfl
        obtain r2 : x0_ 2 = .bool false := hr0 2 (by decide) rfl rfl
        obtain r3 : x0_ 3 = .bool false := hr0 3 (by decide) rfl rfl
        obtain r4 : x0_ 4 = .agg #[.int .i64 x.f0, .int .i64 x.f1, .int .i64 x.f2, .string ⟨(x.f3).toArray⟩] := hr0 4 (by decide) rfl rfl
        obtain r5 : x0_ 5 = .bool false := hr0 5 (by decide) rfl rfl
        obtain r6 : x0_ 6 = .bool true := hr0 6 (by decide) rfl rfl
        obtain r7 : x0_ 7 = .bool true := hr0 7 (by decide) rfl rfl
        obtain r8 : x0_ 8 = .bool true := hr0 8 (by decide) rfl rfl
        obtain r23 : x0_ 23 = .bool true := hr0 23 (by decide) rfl rfl
        clear hr0
        replace h_q2 := keep_below h_q2 hb_w131
        replace h_q4 := keep_below h_q4 hb_w131
        replace h_q6 := keep_below h_q6 hb_w131
        replace h_q11 := keep_below h_q11 hb_w131
        replace o_z9 := own_below o_z9 hb_w131
        replace o_y9 := own_below o_y9 hb_w131
        replace hB := hB.trans (hb_w131.mono hB.size)
        clear hb_w131
        intro xv_ a11 hρ hsz hdf qx_ ql_ qk_ qlk_
        replace s2 : a11.eval (.tmp 2) = .pointer (some ⟨q2, 0, none⟩) := (hρ.inn 2 rfl).trans s2
        replace s3 : a11.eval (.tmp 3) = .pointer (some ⟨q4, 0, none⟩) := (hρ.inn 3 rfl).trans s3
        replace s4 : a11.eval (.tmp 4) = .pointer (some ⟨q6, 0, none⟩) := (hρ.inn 4 rfl).trans s4
        replace s5 : a11.eval (.tmp 5) = .pointer (some ⟨q11, 0, none⟩) := (hρ.inn 5 rfl).trans s5
        have s37 : a11.eval (.tmp 37) = .bool true := (hρ.out 23 37 rfl (by rw [hs.size]; decide)).trans ((qx_ 23 (by decide) rfl rfl).trans r23)
        replace hs : St 109 a11 := ⟨hsz.trans hs.size, hdf.trans hs.nodef⟩
        clear hρ hsz hdf qx_ ql_ qk_ qlk_
        refine hK121 _ _ ?_
        clear hK121
        refine c_true s37 ?_
        refine wp_seq_k fun K132 hK132 => ?_
        refine wp_region_lit ?_
        refine q_val rfl rfl ?_
        refine g_loadB rfl s5 Try.isAgg50 Try.sizeOf50 rfl h_q11 ?_
        intro a12 p12
        have s38 : a12.eval (.tmp 38) = .agg #[.int .i64 room, .slice A9 zs.length c9, .slice B9 ds.length d9] := p12.at hs (by decide)
        replace hs := p12.st hs
        refine q_eff rfl rfl ?_
        refine g_storeB rfl ((p12.ne rfl).trans s4) s38 Try.sizeOf50 rfl rfl h_q6 rfl ?_
        intro w133 W_w133
        replace h_q2 := keep_wrote h_q2 W_w133 n_q6_q2
        replace h_q4 := keep_wrote h_q4 W_w133 n_q6_q4
        replace h_q6 := W_w133.here
        replace h_q11 := keep_wrote h_q11 W_w133 n_q6_q11
        replace o_z9 := own_wrote o_z9 W_w133 d_z9_q6
        replace o_y9 := own_wrote o_y9 W_w133 d_y9_q6
        replace hB := below_wrote hB hB.size W_w133 g_q6.le
        clear W_w133
        refine wpList_nil ?_
        replace s2 : a12.eval (.tmp 2) = .pointer (some ⟨q2, 0, none⟩) := (p12.ne rfl).trans s2
        replace s3 : a12.eval (.tmp 3) = .pointer (some ⟨q4, 0, none⟩) := (p12.ne rfl).trans s3
        replace s4 : a12.eval (.tmp 4) = .pointer (some ⟨q6, 0, none⟩) := (p12.ne rfl).trans s4
        replace s5 : a12.eval (.tmp 5) = .pointer (some ⟨q11, 0, none⟩) := (p12.ne rfl).trans s5
        refine hK132 _ _ ?_
        clear hK132
        refine wp_ret ?_
        try dsimp only [Exit.then, Exit.inBlock]
        refine ret1 hs Try.results51 (res_cell s4 h_q6 Try.isAgg50 Try.sizeOf50 rfl) ?_
        refine ⟨_, rfl, ?_, hB⟩
        rw [keepR_no (by unfold kOk; rw [hok, hrok]; rfl)]
        exact ⟨_, _, _, _, _, _, rfl, rfl, rfl, o_z9, o_y9⟩
    · by_cases hpos : 0 < ((zs.length : Nat) : Int)
      · obtain ⟨b138, o139, hA140, hl_hc141, hc141⟩ := Rd.get cRecord_len (hr_z.below hB) rfl (i := zs.length - 1) (by omega)
        refine wp_drawn (n := 109) [] [] [] (fun k_ v_ _wx => match k_ with | 0 => v_ = .agg #[.int .i64 room, .slice A zs.length cp, .slice B ds.length dp] | 1 => v_ = .bool true | 2 => v_ = .bool false | 3 => v_ = .bool false | 4 => v_ = .agg #[.int .i64 x.f0, .int .i64 x.f1, .int .i64 x.f2, .string ⟨(x.f3).toArray⟩] | 5 => v_ = .bool true | 6 => v_ = .bool false | 7 => v_ = .bool false | 8 => v_ = .bool false | 9 => v_ = .int .i64 ((zs.length : Nat) : Int) | 10 => v_ = .bool true | 11 => v_ = .bool true | 12 => v_ = .pointer (some ⟨q4, 0, none⟩) | 13 => v_ = .int .i64 x.f0 | 14 => v_ = .pointer (some ⟨q2, 1, none⟩) | 15 => v_ = .slice A zs.length cp | 16 => v_ = .int .i64 ((zs.length : Nat) : Int) | 17 => v_ = .int .i64 ((zs.length - 1 : Nat) : Int) | 18 => v_ = .pointer (some ⟨b138, o139 + (zs.length - 1) * 4, none⟩) | 19 => v_ = .pointer (some ⟨b138, o139 + (zs.length - 1) * 4, none⟩) | 20 => v_ = .int .i64 (zs[zs.length - 1].f0) | 21 => v_ = .bool (decide (x.f0 ≤ zs[zs.length - 1].f0)) | 22 => v_ = .bool (decide (x.f0 ≤ zs[zs.length - 1].f0)) | 23 => v_ = .bool (decide (x.f0 ≤ zs[zs.length - 1].f0)) | _ => True) (by kernel_rfl) (by kernel_rfl) (by kernel_rfl) (by kernel_rfl) hs.size ?_ ?_ ?_
        · intro i v wa wb hb hr
          rcases i with _ | _ | _ | _ | _ | _ | _ | _ | _ | _ | _ | _ | _ | _ | _ | _ | _ | _ | _ | _ | _ | _ | _ | _ | i
          · exact hr
          · exact hr
          · exact hr
          · exact hr
          · exact hr
          · exact hr
          · exact hr
          · exact hr
          · exact hr
          · exact hr
          · exact hr
          · exact hr
          · exact hr
          · exact hr
          · exact hr
          · exact hr
          · exact hr
          · exact hr
          · exact hr
          · exact hr
          · exact hr
          · exact hr
          · exact hr
          · exact hr
          · trivial
        · refine d_step rfl rfl ?_ (d_step rfl rfl ?_ (d_step rfl rfl ?_ (d_step rfl rfl ?_ (d_take rfl 3 false 17 rfl rfl rfl (fun v w h => h) ?_ (d_take rfl 3 false 17 rfl rfl rfl (fun v w h => h) ?_ (d_take rfl 3 false 17 rfl rfl rfl (fun v w h => h) ?_ (d_step rfl rfl ?_ (d_step rfl rfl ?_ (d_take rfl 8 false 22 rfl rfl rfl (fun v w h => h) ?_ (d_take rfl 8 false 22 rfl rfl rfl (fun v w h => h) ?_ (d_take rfl 8 false 22 rfl rfl rfl (fun v w h => h) ?_ (d_take rfl 11 true 25 rfl rfl rfl (fun v w h => h) ?_ (d_take rfl 11 true 25 rfl rfl rfl (fun v w h => h) ?_ (d_take rfl 11 true 25 rfl rfl rfl (fun v w h => h) ?_ (d_take rfl 11 true 25 rfl rfl rfl (fun v w h => h) ?_ (d_take rfl 11 true 25 rfl rfl rfl (fun v w h => h) ?_ (d_take rfl 11 true 25 rfl rfl rfl (fun v w h => h) ?_ (d_take rfl 11 true 25 rfl rfl rfl (fun v w h => h) ?_ (d_take rfl 11 true 25 rfl rfl rfl (fun v w h => h) ?_ (d_take rfl 11 true 25 rfl rfl rfl (fun v w h => h) ?_ (d_take rfl 11 true 25 rfl rfl rfl (fun v w h => h) ?_ (d_take rfl 8 false 22 rfl rfl rfl (fun v w h => h) ?_ (d_step rfl rfl ?_ (d_nil))))))))))))))))))))))))
          · intro xv_ wx ρ hρ hwx hd K hK
            have e2 : ρ (.tmp 2) = .pointer (some ⟨q2, 0, none⟩) := (hρ.inn 2 rfl).trans s2
            have h_q2 := keep_below h_q2 hwx
            refine g_loadB rfl e2 Try.isAgg50 Try.sizeOf50 rfl h_q2 ?_
            exact hK _ _ (Below.refl _ _) rfl
          · intro xv_ wx ρ hρ hwx hd K hK
            obtain r0 : xv_ 0 = .agg #[.int .i64 room, .slice A zs.length cp, .slice B ds.length dp] := hd 0 rfl
            have e14 : ρ (.tmp 14) = .agg #[.int .i64 room, .slice A zs.length cp, .slice B ds.length dp] := (hρ.out 0 14 rfl (by rw [hs.size]; decide) rfl).trans r0
            refine g_call rfl (hρ.fn _) Try.call41 (arr1 e14) ?_
            refine (sRecorderOk_any _ _ _ _ _ _ _ zs ds _ rfl (by omega) hT ((hr_z.below hB).below hwx) rfl (by omega) ((hr_d.below hB).below hwx)).mono ?_
            rintro e wy ⟨rfl, hb136⟩
            exact ⟨_, rfl, hK _ _ hb136 (congrArg Value.bool hok)⟩
          · intro xv_ wx ρ hρ hwx hd K hK
            obtain r1 : xv_ 1 = .bool true := hd 1 rfl
            have e15 : ρ (.tmp 15) = .bool true := (hρ.out 1 15 rfl (by rw [hs.size]; decide) rfl).trans r1
            refine g_not rfl e15 ?_
            exact hK _ _ (Below.refl _ _) rfl
          · intro xv_ wx ρ hρ hwx hd K hK
            obtain r2 : xv_ 2 = .bool false := hd 2 rfl
            have e16 : ρ (.tmp 16) = .bool false := (hρ.out 2 16 rfl (by rw [hs.size]; decide) rfl).trans r2
            refine g_move rfl e16 ?_
            exact hK _ _ (Below.refl _ _) rfl
          · intro xv_ wx ρ hρ hwx hd K hK
            have e3 : ρ (.tmp 3) = .pointer (some ⟨q4, 0, none⟩) := (hρ.inn 3 rfl).trans s3
            have h_q4 := keep_below h_q4 hwx
            refine g_loadB rfl e3 Try.isAgg26 Try.sizeOf26 rfl h_q4 ?_
            exact hK _ _ (Below.refl _ _) rfl
          · intro xv_ wx ρ hρ hwx hd K hK
            obtain r4 : xv_ 4 = .agg #[.int .i64 x.f0, .int .i64 x.f1, .int .i64 x.f2, .string ⟨(x.f3).toArray⟩] := hd 4 rfl
            have e18 : ρ (.tmp 18) = .agg #[.int .i64 x.f0, .int .i64 x.f1, .int .i64 x.f2, .string ⟨(x.f3).toArray⟩] := (hρ.out 4 18 rfl (by rw [hs.size]; decide) rfl).trans r4
            refine g_call rfl (hρ.fn _) Try.call16 (arr1 e18) ?_
            refine (sRecordOk_any _ _ _ _ _ hTx).mono ?_
            rintro e wy ⟨rfl, hb137⟩
            exact ⟨_, rfl, hK _ _ hb137 (congrArg Value.bool hrok)⟩
          · intro xv_ wx ρ hρ hwx hd K hK
            obtain r5 : xv_ 5 = .bool true := hd 5 rfl
            have e19 : ρ (.tmp 19) = .bool true := (hρ.out 5 19 rfl (by rw [hs.size]; decide) rfl).trans r5
            refine g_not rfl e19 ?_
            exact hK _ _ (Below.refl _ _) rfl
          · intro xv_ wx ρ hρ hwx hd K hK
            obtain r3 : xv_ 3 = .bool false := hd 3 rfl
            have e17 : ρ (.tmp 17) = .bool false := (hρ.out 3 17 rfl (by rw [hs.size]; decide) rfl).trans r3
            obtain r6 : xv_ 6 = .bool false := hd 6 rfl
            have e20 : ρ (.tmp 20) = .bool false := (hρ.out 6 20 rfl (by rw [hs.size]; decide) rfl).trans r6
            refine g_pick_f rfl e17 e20 ?_
            exact hK _ _ (Below.refl _ _) rfl
          · intro xv_ wx ρ hρ hwx hd K hK
            obtain r7 : xv_ 7 = .bool false := hd 7 rfl
            have e21 : ρ (.tmp 21) = .bool false := (hρ.out 7 21 rfl (by rw [hs.size]; decide) rfl).trans r7
            refine g_move rfl e21 ?_
            exact hK _ _ (Below.refl _ _) rfl
          · intro xv_ wx ρ hρ hwx hd K hK
            have e6 : ρ (.tmp 6) = .int .i64 ((zs.length : Nat) : Int) := (hρ.inn 6 rfl).trans s6
            refine g_move rfl e6 ?_
            exact hK _ _ (Below.refl _ _) rfl
          · intro xv_ wx ρ hρ hwx hd K hK
            obtain r9 : xv_ 9 = .int .i64 ((zs.length : Nat) : Int) := hd 9 rfl
            have e23 : ρ (.tmp 23) = .int .i64 ((zs.length : Nat) : Int) := (hρ.out 9 23 rfl (by rw [hs.size]; decide) rfl).trans r9
            refine g_gtr rfl e23 ((hρ.cst _)) ?_
            exact hK _ _ (Below.refl _ _) (congrArg Value.bool (decide_eq_true hpos))
          · intro xv_ wx ρ hρ hwx hd K hK
            obtain r10 : xv_ 10 = .bool true := hd 10 rfl
            have e24 : ρ (.tmp 24) = .bool true := (hρ.out 10 24 rfl (by rw [hs.size]; decide) rfl).trans r10
            refine g_move rfl e24 ?_
            exact hK _ _ (Below.refl _ _) rfl
          · intro xv_ wx ρ hρ hwx hd K hK
            have e3 : ρ (.tmp 3) = .pointer (some ⟨q4, 0, none⟩) := (hρ.inn 3 rfl).trans s3
            refine g_field (r := 0) rfl e3 Try.underlying26 rfl (fun w => Try.sizeOf3 w) rfl rfl ?_
            exact hK _ _ (Below.refl _ _) rfl
          · intro xv_ wx ρ hρ hwx hd K hK
            obtain r12 : xv_ 12 = .pointer (some ⟨q4, 0, none⟩) := hd 12 rfl
            have e26 : ρ (.tmp 26) = .pointer (some ⟨q4, 0, none⟩) := (hρ.out 12 26 rfl (by rw [hs.size]; decide) rfl).trans r12
            have h_q4 := keep_below h_q4 hwx
            refine g_load rfl e26 Try.isAgg3 (box_cell h_q4 rfl) ?_
            exact hK _ _ (Below.refl _ _) rfl
          · intro xv_ wx ρ hρ hwx hd K hK
            have e2 : ρ (.tmp 2) = .pointer (some ⟨q2, 0, none⟩) := (hρ.inn 2 rfl).trans s2
            refine g_field (r := 1) rfl e2 Try.underlying50 rfl (fun w => Try.sizeOf47 w) rfl rfl ?_
            exact hK _ _ (Below.refl _ _) rfl
          · intro xv_ wx ρ hρ hwx hd K hK
            obtain r14 : xv_ 14 = .pointer (some ⟨q2, 1, none⟩) := hd 14 rfl
            have e28 : ρ (.tmp 28) = .pointer (some ⟨q2, 1, none⟩) := (hρ.out 14 28 rfl (by rw [hs.size]; decide) rfl).trans r14
            have h_q2 := keep_below h_q2 hwx
            refine g_load rfl e28 Try.isAgg47 (box_cell h_q2 rfl) ?_
            exact hK _ _ (Below.refl _ _) rfl
          · intro xv_ wx ρ hρ hwx hd K hK
            have e6 : ρ (.tmp 6) = .int .i64 ((zs.length : Nat) : Int) := (hρ.inn 6 rfl).trans s6
            refine g_move rfl e6 ?_
            exact hK _ _ (Below.refl _ _) rfl
          · intro xv_ wx ρ hρ hwx hd K hK
            obtain r16 : xv_ 16 = .int .i64 ((zs.length : Nat) : Int) := hd 16 rfl
            have e30 : ρ (.tmp 30) = .int .i64 ((zs.length : Nat) : Int) := (hρ.out 16 30 rfl (by rw [hs.size]; decide) rfl).trans r16
            refine g_sub (r := ((zs.length - 1 : Nat) : Int)) rfl e30 ((hρ.cst _)) (by omega) (by omega) ?_
            exact hK _ _ (Below.refl _ _) rfl
          · intro xv_ wx ρ hρ hwx hd K hK
            obtain r15 : xv_ 15 = .slice A zs.length cp := hd 15 rfl
            have e29 : ρ (.tmp 29) = .slice A zs.length cp := (hρ.out 15 29 rfl (by rw [hs.size]; decide) rfl).trans r15
            obtain r17 : xv_ 17 = .int .i64 ((zs.length - 1 : Nat) : Int) := hd 17 rfl
            have e31 : ρ (.tmp 31) = .int .i64 ((zs.length - 1 : Nat) : Int) := (hρ.out 17 31 rfl (by rw [hs.size]; decide) rfl).trans r17
            refine g_index (r := o139 + (zs.length - 1) * 4) (k := zs.length - 1) rfl (e29.trans (slice_at hA140)) e31 Try.underlying47 (fun w => Try.sizeOf26 w) (by omega) rfl ?_
            exact hK _ _ (Below.refl _ _) rfl
          · intro xv_ wx ρ hρ hwx hd K hK
            obtain r18 : xv_ 18 = .pointer (some ⟨b138, o139 + (zs.length - 1) * 4, none⟩) := hd 18 rfl
            have e32 : ρ (.tmp 32) = .pointer (some ⟨b138, o139 + (zs.length - 1) * 4, none⟩) := (hρ.out 18 32 rfl (by rw [hs.size]; decide) rfl).trans r18
            refine g_field (r := o139 + (zs.length - 1) * 4) rfl e32 Try.underlying26 rfl (fun w => Try.sizeOf3 w) rfl rfl ?_
            exact hK _ _ (Below.refl _ _) rfl
          · intro xv_ wx ρ hρ hwx hd K hK
            obtain r19 : xv_ 19 = .pointer (some ⟨b138, o139 + (zs.length - 1) * 4, none⟩) := hd 19 rfl
            have e33 : ρ (.tmp 33) = .pointer (some ⟨b138, o139 + (zs.length - 1) * 4, none⟩) := (hρ.out 19 33 rfl (by rw [hs.size]; decide) rfl).trans r19
            have hc141 := elem_below hc141 hwx hl_hc141
            refine g_load rfl e33 Try.isAgg3 (by first | exact hc141 0 _ (by decide) rfl | (rw [Nat.add_assoc]; exact hc141 0 _ (by decide) rfl)) ?_
            exact hK _ _ (Below.refl _ _) rfl
          · intro xv_ wx ρ hρ hwx hd K hK
            obtain r13 : xv_ 13 = .int .i64 x.f0 := hd 13 rfl
            have e27 : ρ (.tmp 27) = .int .i64 x.f0 := (hρ.out 13 27 rfl (by rw [hs.size]; decide) rfl).trans r13
            obtain r20 : xv_ 20 = .int .i64 (zs[zs.length - 1].f0) := hd 20 rfl
            have e34 : ρ (.tmp 34) = .int .i64 (zs[zs.length - 1].f0) := (hρ.out 20 34 rfl (by rw [hs.size]; decide) rfl).trans r20
            refine g_leq rfl e27 e34 ?_
            exact hK _ _ (Below.refl _ _) rfl
          · intro xv_ wx ρ hρ hwx hd K hK
            obtain r11 : xv_ 11 = .bool true := hd 11 rfl
            have e25 : ρ (.tmp 25) = .bool true := (hρ.out 11 25 rfl (by rw [hs.size]; decide) rfl).trans r11
            obtain r21 : xv_ 21 = .bool (decide (x.f0 ≤ zs[zs.length - 1].f0)) := hd 21 rfl
            have e35 : ρ (.tmp 35) = .bool (decide (x.f0 ≤ zs[zs.length - 1].f0)) := (hρ.out 21 35 rfl (by rw [hs.size]; decide) rfl).trans r21
            refine g_pick_t rfl e25 e35 ?_
            exact hK _ _ (Below.refl _ _) rfl
          · intro xv_ wx ρ hρ hwx hd K hK
            obtain r8 : xv_ 8 = .bool false := hd 8 rfl
            have e22 : ρ (.tmp 22) = .bool false := (hρ.out 8 22 rfl (by rw [hs.size]; decide) rfl).trans r8
            obtain r22 : xv_ 22 = .bool (decide (x.f0 ≤ zs[zs.length - 1].f0)) := hd 22 rfl
            have e36 : ρ (.tmp 36) = .bool (decide (x.f0 ≤ zs[zs.length - 1].f0)) := (hρ.out 22 36 rfl (by rw [hs.size]; decide) rfl).trans r22
            refine g_pick_f rfl e22 e36 ?_
            exact hK _ _ (Below.refl _ _) rfl
        · intro x0_ w142 hb_w142 hr0
          obtain r0 : x0_ 0 = .agg #[.int .i64 room, .slice A zs.length cp, .slice B ds.length dp] := hr0 0 (by decide) rfl rfl
          obtain r1 : x0_ 1 = .bool true := hr0 1 (by decide) rfl rfl
          obtain r2 : x0_ 2 = .bool false := hr0 2 (by decide) rfl rfl
          obtain r3 : x0_ 3 = .bool false := hr0 3 (by decide) rfl rfl
          obtain r4 : x0_ 4 = .agg #[.int .i64 x.f0, .int .i64 x.f1, .int .i64 x.f2, .string ⟨(x.f3).toArray⟩] := hr0 4 (by decide) rfl rfl
          obtain r5 : x0_ 5 = .bool true := hr0 5 (by decide) rfl rfl
          obtain r6 : x0_ 6 = .bool false := hr0 6 (by decide) rfl rfl
          obtain r7 : x0_ 7 = .bool false := hr0 7 (by decide) rfl rfl
          obtain r8 : x0_ 8 = .bool false := hr0 8 (by decide) rfl rfl
          obtain r9 : x0_ 9 = .int .i64 ((zs.length : Nat) : Int) := hr0 9 (by decide) rfl rfl
          obtain r10 : x0_ 10 = .bool true := hr0 10 (by decide) rfl rfl
          obtain r11 : x0_ 11 = .bool true := hr0 11 (by decide) rfl rfl
          obtain r12 : x0_ 12 = .pointer (some ⟨q4, 0, none⟩) := hr0 12 (by decide) rfl rfl
          obtain r13 : x0_ 13 = .int .i64 x.f0 := hr0 13 (by decide) rfl rfl
          obtain r14 : x0_ 14 = .pointer (some ⟨q2, 1, none⟩) := hr0 14 (by decide) rfl rfl
          obtain r15 : x0_ 15 = .slice A zs.length cp := hr0 15 (by decide) rfl rfl
          obtain r16 : x0_ 16 = .int .i64 ((zs.length : Nat) : Int) := hr0 16 (by decide) rfl rfl
          obtain r17 : x0_ 17 = .int .i64 ((zs.length - 1 : Nat) : Int) := hr0 17 (by decide) rfl rfl
          obtain r18 : x0_ 18 = .pointer (some ⟨b138, o139 + (zs.length - 1) * 4, none⟩) := hr0 18 (by decide) rfl rfl
          obtain r19 : x0_ 19 = .pointer (some ⟨b138, o139 + (zs.length - 1) * 4, none⟩) := hr0 19 (by decide) rfl rfl
          obtain r20 : x0_ 20 = .int .i64 (zs[zs.length - 1].f0) := hr0 20 (by decide) rfl rfl
          obtain r21 : x0_ 21 = .bool (decide (x.f0 ≤ zs[zs.length - 1].f0)) := hr0 21 (by decide) rfl rfl
          obtain r22 : x0_ 22 = .bool (decide (x.f0 ≤ zs[zs.length - 1].f0)) := hr0 22 (by decide) rfl rfl
          obtain r23 : x0_ 23 = .bool (decide (x.f0 ≤ zs[zs.length - 1].f0)) := hr0 23 (by decide) rfl rfl
          clear hr0
          replace h_q2 := keep_below h_q2 hb_w142
          replace h_q4 := keep_below h_q4 hb_w142
          replace h_q6 := keep_below h_q6 hb_w142
          replace h_q11 := keep_below h_q11 hb_w142
          replace o_z9 := own_below o_z9 hb_w142
          replace o_y9 := own_below o_y9 hb_w142
          replace hB := hB.trans (hb_w142.mono hB.size)
          clear hb_w142
          intro xv_ a11 hρ hsz hdf qx_ ql_ qk_ qlk_
          replace s2 : a11.eval (.tmp 2) = .pointer (some ⟨q2, 0, none⟩) := (hρ.inn 2 rfl).trans s2
          replace s3 : a11.eval (.tmp 3) = .pointer (some ⟨q4, 0, none⟩) := (hρ.inn 3 rfl).trans s3
          replace s4 : a11.eval (.tmp 4) = .pointer (some ⟨q6, 0, none⟩) := (hρ.inn 4 rfl).trans s4
          replace s5 : a11.eval (.tmp 5) = .pointer (some ⟨q11, 0, none⟩) := (hρ.inn 5 rfl).trans s5
          have s37 : a11.eval (.tmp 37) = .bool (decide (x.f0 ≤ zs[zs.length - 1].f0)) := (hρ.out 23 37 rfl (by rw [hs.size]; decide)).trans ((qx_ 23 (by decide) rfl rfl).trans r23)
          replace hs : St 109 a11 := ⟨hsz.trans hs.size, hdf.trans hs.nodef⟩
          clear hρ hsz hdf qx_ ql_ qk_ qlk_
          refine hK121 _ _ ?_
          clear hK121
          by_cases hlast : x.f0 ≤ zs[zs.length - 1].f0
          · replace s37 := s37.trans (congrArg Value.bool (decide_eq_true hlast))
            replace s37 : a11.eval (.tmp 37) = .bool true := s37
            refine c_true s37 ?_
            refine wp_seq_k fun K143 hK143 => ?_
            refine wp_region_lit ?_
            refine q_val rfl rfl ?_
            refine g_loadB rfl s5 Try.isAgg50 Try.sizeOf50 rfl h_q11 ?_
            intro a12 p12
            have s38 : a12.eval (.tmp 38) = .agg #[.int .i64 room, .slice A9 zs.length c9, .slice B9 ds.length d9] := p12.at hs (by decide)
            replace hs := p12.st hs
            refine q_eff rfl rfl ?_
            refine g_storeB rfl ((p12.ne rfl).trans s4) s38 Try.sizeOf50 rfl rfl h_q6 rfl ?_
            intro w144 W_w144
            replace h_q2 := keep_wrote h_q2 W_w144 n_q6_q2
            replace h_q4 := keep_wrote h_q4 W_w144 n_q6_q4
            replace h_q6 := W_w144.here
            replace h_q11 := keep_wrote h_q11 W_w144 n_q6_q11
            replace o_z9 := own_wrote o_z9 W_w144 d_z9_q6
            replace o_y9 := own_wrote o_y9 W_w144 d_y9_q6
            replace hB := below_wrote hB hB.size W_w144 g_q6.le
            clear W_w144
            refine wpList_nil ?_
            replace s2 : a12.eval (.tmp 2) = .pointer (some ⟨q2, 0, none⟩) := (p12.ne rfl).trans s2
            replace s3 : a12.eval (.tmp 3) = .pointer (some ⟨q4, 0, none⟩) := (p12.ne rfl).trans s3
            replace s4 : a12.eval (.tmp 4) = .pointer (some ⟨q6, 0, none⟩) := (p12.ne rfl).trans s4
            replace s5 : a12.eval (.tmp 5) = .pointer (some ⟨q11, 0, none⟩) := (p12.ne rfl).trans s5
            refine hK143 _ _ ?_
            clear hK143
            refine wp_ret ?_
            try dsimp only [Exit.then, Exit.inBlock]
            refine ret1 hs Try.results51 (res_cell s4 h_q6 Try.isAgg50 Try.sizeOf50 rfl) ?_
            refine ⟨_, rfl, ?_, hB⟩
            rw [keepR_no (kOk_last (by omega) hlast)]
            exact ⟨_, _, _, _, _, _, rfl, rfl, rfl, o_z9, o_y9⟩
          · replace s37 := s37.trans (congrArg Value.bool (decide_eq_false hlast))
            replace s37 : a11.eval (.tmp 37) = .bool false := s37
            refine c_false s37 ?_
            refine wp_skip ?_
            exact jK15 _ _ ⟨hs, s2, s3, s4, s5, hB, h_q2, h_q4, h_q6, h_q11, o_z9, o_y9, hok, hrok, (kOk_behind hok hrok (by omega) hlast)⟩
      · refine wp_drawn (n := 109) [] [] [] (fun k_ v_ _wx => match k_ with | 0 => v_ = .agg #[.int .i64 room, .slice A zs.length cp, .slice B ds.length dp] | 1 => v_ = .bool true | 2 => v_ = .bool false | 3 => v_ = .bool false | 4 => v_ = .agg #[.int .i64 x.f0, .int .i64 x.f1, .int .i64 x.f2, .string ⟨(x.f3).toArray⟩] | 5 => v_ = .bool true | 6 => v_ = .bool false | 7 => v_ = .bool false | 8 => v_ = .bool false | 9 => v_ = .int .i64 ((zs.length : Nat) : Int) | 10 => v_ = .bool false | 11 => v_ = .bool false | 22 => v_ = .bool false | 23 => v_ = .bool false | _ => True) (by kernel_rfl) (by kernel_rfl) (by kernel_rfl) (by kernel_rfl) hs.size ?_ ?_ ?_
        · intro i v wa wb hb hr
          rcases i with _ | _ | _ | _ | _ | _ | _ | _ | _ | _ | _ | _ | _ | _ | _ | _ | _ | _ | _ | _ | _ | _ | _ | _ | i
          · exact hr
          · exact hr
          · exact hr
          · exact hr
          · exact hr
          · exact hr
          · exact hr
          · exact hr
          · exact hr
          · exact hr
          · exact hr
          · exact hr
          · trivial
          · trivial
          · trivial
          · trivial
          · trivial
          · trivial
          · trivial
          · trivial
          · trivial
          · trivial
          · exact hr
          · exact hr
          · trivial
        · refine d_step rfl rfl ?_ (d_step rfl rfl ?_ (d_step rfl rfl ?_ (d_step rfl rfl ?_ (d_take rfl 3 false 17 rfl rfl rfl (fun v w h => h) ?_ (d_take rfl 3 false 17 rfl rfl rfl (fun v w h => h) ?_ (d_take rfl 3 false 17 rfl rfl rfl (fun v w h => h) ?_ (d_step rfl rfl ?_ (d_step rfl rfl ?_ (d_take rfl 8 false 22 rfl rfl rfl (fun v w h => h) ?_ (d_take rfl 8 false 22 rfl rfl rfl (fun v w h => h) ?_ (d_take rfl 8 false 22 rfl rfl rfl (fun v w h => h) ?_ (d_skip 11 true 25 rfl rfl rfl (fun v w h => Or.inl h) (fun w => trivial) (d_skip 11 true 25 rfl rfl rfl (fun v w h => Or.inl h) (fun w => trivial) (d_skip 11 true 25 rfl rfl rfl (fun v w h => Or.inl h) (fun w => trivial) (d_skip 11 true 25 rfl rfl rfl (fun v w h => Or.inl h) (fun w => trivial) (d_skip 11 true 25 rfl rfl rfl (fun v w h => Or.inl h) (fun w => trivial) (d_skip 11 true 25 rfl rfl rfl (fun v w h => Or.inl h) (fun w => trivial) (d_skip 11 true 25 rfl rfl rfl (fun v w h => Or.inl h) (fun w => trivial) (d_skip 11 true 25 rfl rfl rfl (fun v w h => Or.inl h) (fun w => trivial) (d_skip 11 true 25 rfl rfl rfl (fun v w h => Or.inl h) (fun w => trivial) (d_skip 11 true 25 rfl rfl rfl (fun v w h => Or.inl h) (fun w => trivial) (d_take rfl 8 false 22 rfl rfl rfl (fun v w h => h) ?_ (d_step rfl rfl ?_ (d_nil))))))))))))))))))))))))
          · intro xv_ wx ρ hρ hwx hd K hK
            have e2 : ρ (.tmp 2) = .pointer (some ⟨q2, 0, none⟩) := (hρ.inn 2 rfl).trans s2
            have h_q2 := keep_below h_q2 hwx
            refine g_loadB rfl e2 Try.isAgg50 Try.sizeOf50 rfl h_q2 ?_
            exact hK _ _ (Below.refl _ _) rfl
          · intro xv_ wx ρ hρ hwx hd K hK
            obtain r0 : xv_ 0 = .agg #[.int .i64 room, .slice A zs.length cp, .slice B ds.length dp] := hd 0 rfl
            have e14 : ρ (.tmp 14) = .agg #[.int .i64 room, .slice A zs.length cp, .slice B ds.length dp] := (hρ.out 0 14 rfl (by rw [hs.size]; decide) rfl).trans r0
            refine g_call rfl (hρ.fn _) Try.call41 (arr1 e14) ?_
            refine (sRecorderOk_any _ _ _ _ _ _ _ zs ds _ rfl (by omega) hT ((hr_z.below hB).below hwx) rfl (by omega) ((hr_d.below hB).below hwx)).mono ?_
            rintro e wy ⟨rfl, hb145⟩
            exact ⟨_, rfl, hK _ _ hb145 (congrArg Value.bool hok)⟩
          · intro xv_ wx ρ hρ hwx hd K hK
            obtain r1 : xv_ 1 = .bool true := hd 1 rfl
            have e15 : ρ (.tmp 15) = .bool true := (hρ.out 1 15 rfl (by rw [hs.size]; decide) rfl).trans r1
            refine g_not rfl e15 ?_
            exact hK _ _ (Below.refl _ _) rfl
          · intro xv_ wx ρ hρ hwx hd K hK
            obtain r2 : xv_ 2 = .bool false := hd 2 rfl
            have e16 : ρ (.tmp 16) = .bool false := (hρ.out 2 16 rfl (by rw [hs.size]; decide) rfl).trans r2
            refine g_move rfl e16 ?_
            exact hK _ _ (Below.refl _ _) rfl
          · intro xv_ wx ρ hρ hwx hd K hK
            have e3 : ρ (.tmp 3) = .pointer (some ⟨q4, 0, none⟩) := (hρ.inn 3 rfl).trans s3
            have h_q4 := keep_below h_q4 hwx
            refine g_loadB rfl e3 Try.isAgg26 Try.sizeOf26 rfl h_q4 ?_
            exact hK _ _ (Below.refl _ _) rfl
          · intro xv_ wx ρ hρ hwx hd K hK
            obtain r4 : xv_ 4 = .agg #[.int .i64 x.f0, .int .i64 x.f1, .int .i64 x.f2, .string ⟨(x.f3).toArray⟩] := hd 4 rfl
            have e18 : ρ (.tmp 18) = .agg #[.int .i64 x.f0, .int .i64 x.f1, .int .i64 x.f2, .string ⟨(x.f3).toArray⟩] := (hρ.out 4 18 rfl (by rw [hs.size]; decide) rfl).trans r4
            refine g_call rfl (hρ.fn _) Try.call16 (arr1 e18) ?_
            refine (sRecordOk_any _ _ _ _ _ hTx).mono ?_
            rintro e wy ⟨rfl, hb146⟩
            exact ⟨_, rfl, hK _ _ hb146 (congrArg Value.bool hrok)⟩
          · intro xv_ wx ρ hρ hwx hd K hK
            obtain r5 : xv_ 5 = .bool true := hd 5 rfl
            have e19 : ρ (.tmp 19) = .bool true := (hρ.out 5 19 rfl (by rw [hs.size]; decide) rfl).trans r5
            refine g_not rfl e19 ?_
            exact hK _ _ (Below.refl _ _) rfl
          · intro xv_ wx ρ hρ hwx hd K hK
            obtain r3 : xv_ 3 = .bool false := hd 3 rfl
            have e17 : ρ (.tmp 17) = .bool false := (hρ.out 3 17 rfl (by rw [hs.size]; decide) rfl).trans r3
            obtain r6 : xv_ 6 = .bool false := hd 6 rfl
            have e20 : ρ (.tmp 20) = .bool false := (hρ.out 6 20 rfl (by rw [hs.size]; decide) rfl).trans r6
            refine g_pick_f rfl e17 e20 ?_
            exact hK _ _ (Below.refl _ _) rfl
          · intro xv_ wx ρ hρ hwx hd K hK
            obtain r7 : xv_ 7 = .bool false := hd 7 rfl
            have e21 : ρ (.tmp 21) = .bool false := (hρ.out 7 21 rfl (by rw [hs.size]; decide) rfl).trans r7
            refine g_move rfl e21 ?_
            exact hK _ _ (Below.refl _ _) rfl
          · intro xv_ wx ρ hρ hwx hd K hK
            have e6 : ρ (.tmp 6) = .int .i64 ((zs.length : Nat) : Int) := (hρ.inn 6 rfl).trans s6
            refine g_move rfl e6 ?_
            exact hK _ _ (Below.refl _ _) rfl
          · intro xv_ wx ρ hρ hwx hd K hK
            obtain r9 : xv_ 9 = .int .i64 ((zs.length : Nat) : Int) := hd 9 rfl
            have e23 : ρ (.tmp 23) = .int .i64 ((zs.length : Nat) : Int) := (hρ.out 9 23 rfl (by rw [hs.size]; decide) rfl).trans r9
            refine g_gtr rfl e23 ((hρ.cst _)) ?_
            exact hK _ _ (Below.refl _ _) (congrArg Value.bool (decide_eq_false hpos))
          · intro xv_ wx ρ hρ hwx hd K hK
            obtain r10 : xv_ 10 = .bool false := hd 10 rfl
            have e24 : ρ (.tmp 24) = .bool false := (hρ.out 10 24 rfl (by rw [hs.size]; decide) rfl).trans r10
            refine g_move rfl e24 ?_
            exact hK _ _ (Below.refl _ _) rfl
          · intro xv_ wx ρ hρ hwx hd K hK
            obtain r11 : xv_ 11 = .bool false := hd 11 rfl
            have e25 : ρ (.tmp 25) = .bool false := (hρ.out 11 25 rfl (by rw [hs.size]; decide) rfl).trans r11
            refine g_pick_f rfl e25 ((hρ.cst _)) ?_
            exact hK _ _ (Below.refl _ _) rfl
          · intro xv_ wx ρ hρ hwx hd K hK
            obtain r8 : xv_ 8 = .bool false := hd 8 rfl
            have e22 : ρ (.tmp 22) = .bool false := (hρ.out 8 22 rfl (by rw [hs.size]; decide) rfl).trans r8
            obtain r22 : xv_ 22 = .bool false := hd 22 rfl
            have e36 : ρ (.tmp 36) = .bool false := (hρ.out 22 36 rfl (by rw [hs.size]; decide) rfl).trans r22
            refine g_pick_f rfl e22 e36 ?_
            exact hK _ _ (Below.refl _ _) rfl
        · intro x0_ w147 hb_w147 hr0
          obtain r0 : x0_ 0 = .agg #[.int .i64 room, .slice A zs.length cp, .slice B ds.length dp] := hr0 0 (by decide) rfl rfl
          obtain r1 : x0_ 1 = .bool true := hr0 1 (by decide) rfl rfl
          obtain r2 : x0_ 2 = .bool false := hr0 2 (by decide) rfl rfl
          obtain r3 : x0_ 3 = .bool false := hr0 3 (by decide) rfl rfl
          obtain r4 : x0_ 4 = .agg #[.int .i64 x.f0, .int .i64 x.f1, .int .i64 x.f2, .string ⟨(x.f3).toArray⟩] := hr0 4 (by decide) rfl rfl
          obtain r5 : x0_ 5 = .bool true := hr0 5 (by decide) rfl rfl
          obtain r6 : x0_ 6 = .bool false := hr0 6 (by decide) rfl rfl
          obtain r7 : x0_ 7 = .bool false := hr0 7 (by decide) rfl rfl
          obtain r8 : x0_ 8 = .bool false := hr0 8 (by decide) rfl rfl
          obtain r9 : x0_ 9 = .int .i64 ((zs.length : Nat) : Int) := hr0 9 (by decide) rfl rfl
          obtain r10 : x0_ 10 = .bool false := hr0 10 (by decide) rfl rfl
          obtain r11 : x0_ 11 = .bool false := hr0 11 (by decide) rfl rfl
          obtain r22 : x0_ 22 = .bool false := hr0 22 (by decide) rfl rfl
          obtain r23 : x0_ 23 = .bool false := hr0 23 (by decide) rfl rfl
          clear hr0
          replace h_q2 := keep_below h_q2 hb_w147
          replace h_q4 := keep_below h_q4 hb_w147
          replace h_q6 := keep_below h_q6 hb_w147
          replace h_q11 := keep_below h_q11 hb_w147
          replace o_z9 := own_below o_z9 hb_w147
          replace o_y9 := own_below o_y9 hb_w147
          replace hB := hB.trans (hb_w147.mono hB.size)
          clear hb_w147
          intro xv_ a11 hρ hsz hdf qx_ ql_ qk_ qlk_
          replace s2 : a11.eval (.tmp 2) = .pointer (some ⟨q2, 0, none⟩) := (hρ.inn 2 rfl).trans s2
          replace s3 : a11.eval (.tmp 3) = .pointer (some ⟨q4, 0, none⟩) := (hρ.inn 3 rfl).trans s3
          replace s4 : a11.eval (.tmp 4) = .pointer (some ⟨q6, 0, none⟩) := (hρ.inn 4 rfl).trans s4
          replace s5 : a11.eval (.tmp 5) = .pointer (some ⟨q11, 0, none⟩) := (hρ.inn 5 rfl).trans s5
          have s37 : a11.eval (.tmp 37) = .bool false := (hρ.out 23 37 rfl (by rw [hs.size]; decide)).trans ((qx_ 23 (by decide) rfl rfl).trans r23)
          replace hs : St 109 a11 := ⟨hsz.trans hs.size, hdf.trans hs.nodef⟩
          clear hρ hsz hdf qx_ ql_ qk_ qlk_
          refine hK121 _ _ ?_
          clear hK121
          refine c_false s37 ?_
          refine wp_skip ?_
          exact jK15 _ _ ⟨hs, s2, s3, s4, s5, hB, h_q2, h_q4, h_q6, h_q11, o_z9, o_y9, hok, hrok, (kOk_none hok hrok hpos)⟩
end Go.Proofs.Ytnjopeonmenopaa
