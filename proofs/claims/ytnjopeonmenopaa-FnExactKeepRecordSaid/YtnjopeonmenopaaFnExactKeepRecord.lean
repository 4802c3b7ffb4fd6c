/- For every recorder and every record the program's KeepRecord returns what the reference's returns, leaves its argument as it was and shares no memory. No condition. -/
import Derived.Test.YtnjopeonmenopaaKeepS
import Derived.Test.YtnjopeonmenopaaRecMark
import Derived.Test.YtnjopeonmenopaaRecordArg
namespace Go.Proofs.Ytnjopeonmenopaa
open Go.RowKit

theorem keepR_small {room : Int} {zs : List ERecord} {ds : List Int} {x : ERecord} : ((keepR room zs ds x).1.length ≤ zs.length ∨ (keepR room zs ds x).1.length ≤ 700) ∧ ((keepR room zs ds x).2.length ≤ ds.length ∨ (keepR room zs ds x).2.length ≤ 65536) := by
  unfold keepR
  split
  · rename_i h
    rw [Bool.and_eq_true] at h
    obtain ⟨_, h2, h3, _⟩ := rec_len h.2
    exact ⟨.inr h3, .inr h2⟩
  · exact ⟨.inl (Nat.le_refl _), .inl (Nat.le_refl _)⟩
theorem kres_v {base : Nat} {w : World} {room : Int} {p : List ERecord × List Int} {v : Value} (h : KRes base w room p v) : ∃ (A : Option Addr) (c : Nat) (B : Option Addr) (d : Nat), v = .agg #[.int .i64 room, .slice A p.1.length c, .slice B p.2.length d] ∧ w.ownsRow base 26 4 (.slice A p.1.length c) p.1.length (p.1.flatMap cRecord) ∧ w.ownsRow base 3 1 (.slice B p.2.length d) p.2.length (p.2.flatMap cI) := by
  obtain ⟨A, n, c, B, m, d, hv, rfl, rfl, h1, h2⟩ := h
  exact ⟨A, c, B, d, hv, h1, h2⟩
theorem keepRecord_v (room : Int) (A B : Option Addr) (n cp m dp : Nat) (zs : List ERecord) (ds : List Int) (x : ERecord) (w : World) (hn : zs.length = n) (hb : n ≤ 1048576) (_hnc_z : n ≤ cp) (hT : ∀ z ∈ zs, Txt z.f3) (hr_z : Rd w 4 A n (zs.flatMap cRecord)) (hnn_z : A = none → n = 0 ∧ cp = 0) (hm : ds.length = m) (hbm : m ≤ 1048576) (hnn_d : B = none → m = 0 ∧ dp = 0) (hr_d : Rd w 1 B m (ds.flatMap cI)) (hTx : Txt x.f3) :
    Calls Try.prog 34 #[.agg #[.int .i64 room, .slice A n cp, .slice B m dp], .agg #[.int .i64 x.f0, .int .i64 x.f1, .int .i64 x.f2, .string ⟨(x.f3).toArray⟩]] w fun e w' => ∃ A c B d, e = .returned (.agg #[.int .i64 room, .slice A (keepR room zs ds x).1.length c, .slice B (keepR room zs ds x).2.length d]) ∧ w'.ownsRow w.heap.size 26 4 (.slice A (keepR room zs ds x).1.length c) (keepR room zs ds x).1.length ((keepR room zs ds x).1.flatMap cRecord) ∧ w'.ownsRow w.heap.size 3 1 (.slice B (keepR room zs ds x).2.length d) (keepR room zs ds x).2.length ((keepR room zs ds x).2.flatMap cI) ∧ Below w.heap.size w w' :=
  (keepRecord_any room A B n cp m dp zs ds x w hn hb _hnc_z hT hr_z hnn_z hm hbm hnn_d hr_d hTx).mono fun _ _ ⟨v, he, hk, hb⟩ => by
    obtain ⟨A, c, B, d, hv, h1, h2⟩ := kres_v hk
    exact ⟨A, c, B, d, by rw [he, hv], h1, h2, hb⟩
theorem sKeepRecord_v (room : Int) (A B : Option Addr) (n cp m dp : Nat) (zs : List ERecord) (ds : List Int) (x : ERecord) (w : World) (hn : zs.length = n) (hb : n ≤ 1048576) (_hnc_z : n ≤ cp) (hT : ∀ z ∈ zs, Txt z.f3) (hr_z : Rd w 4 A n (zs.flatMap cRecord)) (hnn_z : A = none → n = 0 ∧ cp = 0) (hm : ds.length = m) (hbm : m ≤ 1048576) (hnn_d : B = none → m = 0 ∧ dp = 0) (hr_d : Rd w 1 B m (ds.flatMap cI)) (hTx : Txt x.f3) :
    Calls Try.prog 51 #[.agg #[.int .i64 room, .slice A n cp, .slice B m dp], .agg #[.int .i64 x.f0, .int .i64 x.f1, .int .i64 x.f2, .string ⟨(x.f3).toArray⟩]] w fun e w' => ∃ A c B d, e = .returned (.agg #[.int .i64 room, .slice A (keepR room zs ds x).1.length c, .slice B (keepR room zs ds x).2.length d]) ∧ w'.ownsRow w.heap.size 26 4 (.slice A (keepR room zs ds x).1.length c) (keepR room zs ds x).1.length ((keepR room zs ds x).1.flatMap cRecord) ∧ w'.ownsRow w.heap.size 3 1 (.slice B (keepR room zs ds x).2.length d) (keepR room zs ds x).2.length ((keepR room zs ds x).2.flatMap cI) ∧ Below w.heap.size w w' :=
  (sKeepRecord_any room A B n cp m dp zs ds x w hn hb _hnc_z hT hr_z hnn_z hm hbm hnn_d hr_d hTx).mono fun _ _ ⟨v, he, hk, hb⟩ => by
    obtain ⟨A, c, B, d, hv, h1, h2⟩ := kres_v hk
    exact ⟨A, c, B, d, by rw [he, hv], h1, h2, hb⟩
set_option maxRecDepth 100000 in
set_option maxHeartbeats 8000000 in
theorem fnExactKeepRecord_walkx {w : World} (a : Int) (A : Option Addr) (n cp : Nat) (zs : List ERecord) (B : Option Addr) (m dp : Nat) (ds : List Int) (_ha : I64 a) (hn : zs.length = n) (hnc_z : n ≤ cp) (hcm : cp ≤ maxLen) (hr_z : Rd w 4 A n (zs.flatMap cRecord)) (hwf : ∀ r ∈ zs, wfRecord r) (hm : ds.length = m) (hnc_d : m ≤ dp) (hdm : dp ≤ maxLen) (hr_d : Rd w 1 B m (ds.flatMap cI)) (_hwd : ∀ r ∈ ds, I64 r) (x : ERecord) (hTx : Txt x.f3) :
    Calls Try.prog 14 #[.agg #[.int .i64 a, .slice A n cp, .slice B m dp], .agg #[.int .i64 x.f0, .int .i64 x.f1, .int .i64 x.f2, .string ⟨(x.f3).toArray⟩]] w fun e w' => e = .returned (.bool true) ∧ Below w.heap.size w w' := by
  subst hn
  subst hm
  unfold maxLen at hcm hdm
  have hT : ∀ z ∈ zs, Txt z.f3 := fun z hz => (hwf z hz).2.2.2
  have hkl := keepR_small (room := a) (zs := zs) (ds := ds) (x := x)
  refine enter 82 Try.func14 rfl rfl (Nat.le_of_ble_eq_true rfl) ?_
  intro a0 hs hargs
  have s0 : a0.eval (.tmp 0) = .agg #[.int .i64 a, .slice A zs.length cp, .slice B ds.length dp] := hargs 0 _ rfl
  have s1 : a0.eval (.tmp 1) = .agg #[.int .i64 x.f0, .int .i64 x.f1, .int .i64 x.f2, .string ⟨(x.f3).toArray⟩] := hargs 1 _ rfl
  clear hargs
  have hB : Below w.heap.size w w := Below.refl _ _
  refine wp_seq_k fun K1 hK1 => ?_
  refine wp_region_lit ?_
  refine q_val rfl rfl ?_
  refine g_box rfl s0 rfl ?_
  intro q2 w3 N_q2
  have g_q2 : GeB w.heap.size q2 := ⟨Nat.le_trans hB.size N_q2.lo⟩
  replace hB := below_new hB hB.size N_q2
  have h_q2 := N_q2.here
  clear N_q2
  intro a1 p1
  have s2 : a1.eval (.tmp 2) = .pointer (some ⟨q2, 0, none⟩) := p1.at hs (by decide)
  replace hs := p1.st hs
  refine q_val rfl rfl ?_
  refine g_box rfl ((p1.ne rfl).trans s1) rfl ?_
  intro q4 w5 N_q4
  have n_q2_q4 := N_q4.ne ⟨lt_of_block h_q2⟩
  have n_q4_q2 := n_q2_q4.symm
  have g_q4 : GeB w.heap.size q4 := ⟨Nat.le_trans hB.size N_q4.lo⟩
  replace h_q2 := keep_below h_q2 N_q4.below
  replace hB := below_new hB hB.size N_q4
  have h_q4 := N_q4.here
  clear N_q4
  intro a2 p2
  have s3 : a2.eval (.tmp 3) = .pointer (some ⟨q4, 0, none⟩) := p2.at hs (by decide)
  replace hs := p2.st hs
  refine q_val rfl rfl ?_
  refine g_assign rfl rfl ?_
  intro a3 p3
  have s4 : a3.eval (.tmp 4) = .bool false := p3.at hs (by decide)
  replace hs := p3.st hs
  refine wpList_nil ?_
  replace s2 : a3.eval (.tmp 2) = .pointer (some ⟨q2, 0, none⟩) := ((p3.ne rfl).trans (p2.ne rfl)).trans s2
  replace s3 : a3.eval (.tmp 3) = .pointer (some ⟨q4, 0, none⟩) := (p3.ne rfl).trans s3
  refine hK1 _ _ ?_
  clear hK1
  refine wp_seq_k fun K6 hK6 => ?_
  refine wp_region_lit ?_
  refine q_val rfl rfl ?_
  refine g_assign rfl rfl ?_
  intro a4 p4
  have s5 : a4.eval (.tmp 5) = .int .i64 1048576 := p4.at hs (by decide)
  replace hs := p4.st hs
  refine wpList_nil ?_
  replace s2 : a4.eval (.tmp 2) = .pointer (some ⟨q2, 0, none⟩) := (p4.ne rfl).trans s2
  replace s3 : a4.eval (.tmp 3) = .pointer (some ⟨q4, 0, none⟩) := (p4.ne rfl).trans s3
  replace s4 : a4.eval (.tmp 4) = .bool false := (p4.ne rfl).trans s4
  refine hK6 _ _ ?_
  clear hK6
  refine wp_seq_k fun K7 hK7 => ?_
  refine wp_region_lit ?_
  refine q_val rfl rfl ?_
  refine g_loadB rfl s2 Try.isAgg61 Try.sizeOf61 rfl h_q2 ?_
  intro a5 p5
  have s13 : a5.eval (.tmp 13) = .agg #[.int .i64 a, .slice A zs.length cp, .slice B ds.length dp] := p5.at hs (by decide)
  replace hs := p5.st hs
  refine q_val rfl rfl ?_
  refine g_move rfl ((p5.ne rfl).trans s5) ?_
  intro a6 p6
  have s14 : a6.eval (.tmp 14) = .int .i64 1048576 := p6.at hs (by decide)
  replace hs := p6.st hs
  refine q_val rfl rfl ?_
  refine g_call rfl rfl Try.call40 (arr2 ((p6.ne rfl).trans s13) s14) ?_
  refine (szRecorder_any _ _ _ _ _ _ _ zs _ _ rfl (by omega) (by omega) (by omega) (by omega) hT (hr_z.below hB)).mono ?_
  rintro e w9 ⟨q, rfl, hq0, hq1, hq2, hb8⟩
  refine ⟨_, rfl, ?_⟩
  replace h_q2 := keep_below h_q2 hb8
  replace h_q4 := keep_below h_q4 hb8
  replace hB := hB.trans (hb8.mono hB.size)
  clear hb8
  intro a7 p7
  have s15 : a7.eval (.tmp 15) = .int .i64 q := p7.at hs (by decide)
  replace hs := p7.st hs
  refine q_val rfl rfl ?_
  refine g_assign rfl s15 ?_
  intro a8 p8
  have s5 : a8.eval (.tmp 5) = .int .i64 q := p8.at hs (by decide)
  replace hs := p8.st hs
  refine wpList_nil ?_
  replace s2 : a8.eval (.tmp 2) = .pointer (some ⟨q2, 0, none⟩) := ((p8.ne rfl).trans ((p7.ne rfl).trans ((p6.ne rfl).trans (p5.ne rfl)))).trans s2
  replace s3 : a8.eval (.tmp 3) = .pointer (some ⟨q4, 0, none⟩) := ((p8.ne rfl).trans ((p7.ne rfl).trans ((p6.ne rfl).trans (p5.ne rfl)))).trans s3
  replace s4 : a8.eval (.tmp 4) = .bool false := ((p8.ne rfl).trans ((p7.ne rfl).trans ((p6.ne rfl).trans (p5.ne rfl)))).trans s4
  refine hK7 _ _ ?_
  clear hK7
  refine wp_seq_k fun K10 hK10 => ?_
  refine wp_seq_k fun K11 hK11 => ?_
  refine wp_region_lit ?_
  refine q_val rfl rfl ?_
  refine g_move rfl s5 ?_
  intro a9 p9
  have s16 : a9.eval (.tmp 16) = .int .i64 q := p9.at hs (by decide)
  replace hs := p9.st hs
  refine q_val rfl rfl ?_
  refine g_lss rfl s16 rfl ?_
  intro a10 p10
  have s17 : a10.eval (.tmp 17) = .bool (decide (q < 0)) := p10.at hs (by decide)
  replace hs := p10.st hs
  refine wpList_nil ?_
  replace s2 : a10.eval (.tmp 2) = .pointer (some ⟨q2, 0, none⟩) := ((p10.ne rfl).trans (p9.ne rfl)).trans s2
  replace s3 : a10.eval (.tmp 3) = .pointer (some ⟨q4, 0, none⟩) := ((p10.ne rfl).trans (p9.ne rfl)).trans s3
  replace s4 : a10.eval (.tmp 4) = .bool false := ((p10.ne rfl).trans (p9.ne rfl)).trans s4
  replace s5 : a10.eval (.tmp 5) = .int .i64 q := ((p10.ne rfl).trans (p9.ne rfl)).trans s5
  refine hK11 _ _ ?_
  clear hK11
  by_cases hc12 : q < 0
  · replace s17 := s17.trans (congrArg Value.bool (decide_eq_true hc12))
    replace s17 : a10.eval (.tmp 17) = .bool true := s17
    refine c_true s17 ?_
    refine wp_seq_k fun K13 hK13 => ?_
    refine wp_region_lit ?_
    refine q_val rfl rfl ?_
    refine g_assign rfl rfl ?_
    intro a11 p11
    have s4 : a11.eval (.tmp 4) = .bool true := p11.at hs (by decide)
    replace hs := p11.st hs
    refine wpList_nil ?_
    replace s2 : a11.eval (.tmp 2) = .pointer (some ⟨q2, 0, none⟩) := (p11.ne rfl).trans s2
    replace s3 : a11.eval (.tmp 3) = .pointer (some ⟨q4, 0, none⟩) := (p11.ne rfl).trans s3
    replace s5 : a11.eval (.tmp 5) = .int .i64 q := (p11.ne rfl).trans s5
    refine hK13 _ _ ?_
    clear hK13
    refine wp_ret ?_
    try dsimp only [Exit.then, Exit.inBlock]
    refine ret1 hs Try.results14 (res_tmp s4) ?_
    exact ⟨rfl, hB⟩
  · replace s17 := s17.trans (congrArg Value.bool (decide_eq_false hc12))
    replace s17 : a10.eval (.tmp 17) = .bool false := s17
    refine c_false s17 ?_
    refine wp_skip ?_
    refine hK10 _ _ ?_
    clear hK10
    refine wp_seq_k fun K14 hK14 => ?_
    obtain ⟨hm1, hm2⟩ : zs.length ≤ 1048576 ∧ ds.length ≤ 1048576 := by have := hq2 (by omega); omega
    have hkl1 : (keepR a zs ds x).1.length ≤ 1048576 := by omega
    have hkl2 : (keepR a zs ds x).2.length ≤ 1048576 := by omega
    clear hkl
    refine wp_region_lit ?_
    refine q_val rfl rfl ?_
    refine g_loadB rfl s3 Try.isAgg23 Try.sizeOf23 rfl h_q4 ?_
    intro a11 p11
    have s18 : a11.eval (.tmp 18) = .agg #[.int .i64 x.f0, .int .i64 x.f1, .int .i64 x.f2, .string ⟨(x.f3).toArray⟩] := p11.at hs (by decide)
    replace hs := p11.st hs
    refine q_val rfl rfl ?_
    refine g_move rfl ((p11.ne rfl).trans s5) ?_
    intro a12 p12
    have s19 : a12.eval (.tmp 19) = .int .i64 q := p12.at hs (by decide)
    replace hs := p12.st hs
    refine q_val rfl rfl ?_
    refine g_call rfl rfl Try.call15 (arr2 ((p12.ne rfl).trans s18) s19) ?_
    refine (szRecord_any _ _ _ _ _ _ hTx (by omega) (by omega)).mono ?_
    rintro e w16 ⟨qr, rfl, hp0, hp1, hp2, hb15⟩
    refine ⟨_, rfl, ?_⟩
    replace h_q2 := keep_below h_q2 hb15
    replace h_q4 := keep_below h_q4 hb15
    replace hB := hB.trans (hb15.mono hB.size)
    clear hb15
    intro a13 p13
    have s20 : a13.eval (.tmp 20) = .int .i64 qr := p13.at hs (by decide)
    replace hs := p13.st hs
    refine q_val rfl rfl ?_
    refine g_assign rfl s20 ?_
    intro a14 p14
    have s5 : a14.eval (.tmp 5) = .int .i64 qr := p14.at hs (by decide)
    replace hs := p14.st hs
    refine wpList_nil ?_
    replace s2 : a14.eval (.tmp 2) = .pointer (some ⟨q2, 0, none⟩) := ((p14.ne rfl).trans ((p13.ne rfl).trans ((p12.ne rfl).trans (p11.ne rfl)))).trans s2
    replace s3 : a14.eval (.tmp 3) = .pointer (some ⟨q4, 0, none⟩) := ((p14.ne rfl).trans ((p13.ne rfl).trans ((p12.ne rfl).trans (p11.ne rfl)))).trans s3
    replace s4 : a14.eval (.tmp 4) = .bool false := ((p14.ne rfl).trans ((p13.ne rfl).trans ((p12.ne rfl).trans (p11.ne rfl)))).trans s4
    refine hK14 _ _ ?_
    clear hK14
    refine wp_seq_k fun K17 hK17 => ?_
    refine wp_seq_k fun K18 hK18 => ?_
    refine wp_region_lit ?_
    refine q_val rfl rfl ?_
    refine g_move rfl s5 ?_
    intro a15 p15
    have s21 : a15.eval (.tmp 21) = .int .i64 qr := p15.at hs (by decide)
    replace hs := p15.st hs
    refine q_val rfl rfl ?_
    refine g_lss rfl s21 rfl ?_
    intro a16 p16
    have s22 : a16.eval (.tmp 22) = .bool (decide (qr < 0)) := p16.at hs (by decide)
    replace hs := p16.st hs
    refine wpList_nil ?_
    replace s2 : a16.eval (.tmp 2) = .pointer (some ⟨q2, 0, none⟩) := ((p16.ne rfl).trans (p15.ne rfl)).trans s2
    replace s3 : a16.eval (.tmp 3) = .pointer (some ⟨q4, 0, none⟩) := ((p16.ne rfl).trans (p15.ne rfl)).trans s3
    replace s4 : a16.eval (.tmp 4) = .bool false := ((p16.ne rfl).trans (p15.ne rfl)).trans s4
    refine hK18 _ _ ?_
    clear hK18
    by_cases hc19 : qr < 0
    · replace s22 := s22.trans (congrArg Value.bool (decide_eq_true hc19))
      replace s22 : a16.eval (.tmp 22) = .bool true := s22
      refine c_true s22 ?_
      refine wp_seq_k fun K20 hK20 => ?_
      refine wp_region_lit ?_
      refine q_val rfl rfl ?_
      refine g_assign rfl rfl ?_
      intro a17 p17
      have s4 : a17.eval (.tmp 4) = .bool true := p17.at hs (by decide)
      replace hs := p17.st hs
      refine wpList_nil ?_
      replace s2 : a17.eval (.tmp 2) = .pointer (some ⟨q2, 0, none⟩) := (p17.ne rfl).trans s2
      replace s3 : a17.eval (.tmp 3) = .pointer (some ⟨q4, 0, none⟩) := (p17.ne rfl).trans s3
      refine hK20 _ _ ?_
      clear hK20
      refine wp_ret ?_
      try dsimp only [Exit.then, Exit.inBlock]
      refine ret1 hs Try.results14 (res_tmp s4) ?_
      exact ⟨rfl, hB⟩
    · replace s22 := s22.trans (congrArg Value.bool (decide_eq_false hc19))
      replace s22 : a16.eval (.tmp 22) = .bool false := s22
      refine c_false s22 ?_
      refine wp_skip ?_
      refine hK17 _ _ ?_
      clear hK17
      refine wp_seq_k fun K21 hK21 => ?_
      refine wp_drawn (n := 82) [] [6] [] (fun k_ v_ wx => match k_ with | 0 => v_ = .agg #[.int .i64 a, .slice A zs.length cp, .slice B ds.length dp] | 1 => ∃ (g22 : Nat) (i22 : Nat), v_ = .agg #[.int .i64 a, .slice (some ⟨g22, 0, none⟩) zs.length zs.length, .slice (some ⟨i22, 0, none⟩) ds.length ds.length] ∧ ((wx).ownsRow w16.heap.size 26 4 (.slice (some ⟨g22, 0, none⟩) zs.length zs.length) zs.length (zs.flatMap cRecord)) ∧ ((wx).ownsRow w16.heap.size 3 1 (.slice (some ⟨i22, 0, none⟩) ds.length ds.length) ds.length (ds.flatMap cI)) | 2 => v_ = .agg #[.int .i64 x.f0, .int .i64 x.f1, .int .i64 x.f2, .string ⟨(x.f3).toArray⟩] | 3 => v_ = .agg #[.int .i64 x.f0, .int .i64 x.f1, .int .i64 x.f2, .string ⟨(x.f3).toArray⟩] | 4 => ∃ (A24 : Option Addr) (c24 : Nat) (B24 : Option Addr) (d24 : Nat), v_ = .agg #[.int .i64 a, .slice A24 ((keepR a zs ds x).1.length) c24, .slice B24 ((keepR a zs ds x).2.length) d24] ∧ ((wx).ownsRow w16.heap.size 26 4 (.slice A24 ((keepR a zs ds x).1.length) c24) ((keepR a zs ds x).1.length) (((keepR a zs ds x).1).flatMap cRecord)) ∧ ((wx).ownsRow w16.heap.size 3 1 (.slice B24 ((keepR a zs ds x).2.length) d24) ((keepR a zs ds x).2.length) (((keepR a zs ds x).2).flatMap cI)) | 5 => ∃ q25, v_ = .pointer (some ⟨q25, 0, none⟩) ∧ w16.heap.size ≤ q25 ∧ wx.heap[q25]? = some (.cells #[.int .i64 0, .slice none 0 0, .slice none 0 0] 50 (0, 0)) | _ => True) (by kernel_rfl) (by kernel_rfl) (by kernel_rfl) (by kernel_rfl) hs.size ?_ ?_ ?_
      · intro i v wa wb hb hr
        rcases i with _ | _ | _ | _ | _ | _ | _ | i
        · exact hr
        · obtain ⟨g22, i22, hr, o_z22, o_y22⟩ := hr; exact ⟨g22, i22, hr, own_below o_z22 hb, own_below o_y22 hb⟩
        · exact hr
        · exact hr
        · obtain ⟨A24, c24, B24, d24, hr, o_z24, o_y24⟩ := hr; exact ⟨A24, c24, B24, d24, hr, own_below o_z24 hb, own_below o_y24 hb⟩
        · obtain ⟨q25, hr, hg, hh⟩ := hr; exact ⟨q25, hr, hg, keep_below hh hb⟩
        · trivial
        · trivial
      · refine d_step rfl rfl ?_ (d_step rfl rfl ?_ (d_step rfl rfl ?_ (d_step rfl rfl ?_ (d_step rfl rfl ?_ (d_step rfl rfl ?_ (d_chain rfl (d_nil)))))))
        · intro xv_ wx ρ hρ hwx hd K hK
          have e2 : ρ (.tmp 2) = .pointer (some ⟨q2, 0, none⟩) := (hρ.inn 2 rfl).trans s2
          have h_q2 := keep_below h_q2 hwx
          refine g_loadB rfl e2 Try.isAgg61 Try.sizeOf61 rfl h_q2 ?_
          exact hK _ _ (Below.refl _ _) rfl
        · intro xv_ wx ρ hρ hwx hd K hK
          obtain r0 : xv_ 0 = .agg #[.int .i64 a, .slice A zs.length cp, .slice B ds.length dp] := hd 0 rfl
          have e23 : ρ (.tmp 23) = .agg #[.int .i64 a, .slice A zs.length cp, .slice B ds.length dp] := (hρ.out 0 23 rfl (by rw [hs.size]; decide) rfl).trans r0
          refine g_call rfl (hρ.fn _) Try.call42 (arr1 e23) ?_
          refine (toRecorder_any _ _ _ _ _ _ _ zs ds _ rfl hm1 ((hr_z.below hB).below hwx) rfl hm2 ((hr_d.below hB).below hwx)).mono ?_
          rintro e wy ⟨g22, i22, rfl, o_z22, o_y22, _, hb22⟩
          exact ⟨_, rfl, hK _ _ hb22 ⟨g22, i22, rfl, own_base o_z22 hwx.size, own_base o_y22 hwx.size⟩⟩
        · intro xv_ wx ρ hρ hwx hd K hK
          have e3 : ρ (.tmp 3) = .pointer (some ⟨q4, 0, none⟩) := (hρ.inn 3 rfl).trans s3
          have h_q4 := keep_below h_q4 hwx
          refine g_loadB rfl e3 Try.isAgg23 Try.sizeOf23 rfl h_q4 ?_
          exact hK _ _ (Below.refl _ _) rfl
        · intro xv_ wx ρ hρ hwx hd K hK
          obtain r2 : xv_ 2 = .agg #[.int .i64 x.f0, .int .i64 x.f1, .int .i64 x.f2, .string ⟨(x.f3).toArray⟩] := hd 2 rfl
          have e25 : ρ (.tmp 25) = .agg #[.int .i64 x.f0, .int .i64 x.f1, .int .i64 x.f2, .string ⟨(x.f3).toArray⟩] := (hρ.out 2 25 rfl (by rw [hs.size]; decide) rfl).trans r2
          refine g_call rfl (hρ.fn _) Try.call17 (arr1 e25) ?_
          refine (toRecord_any _ _ _ _ _).mono ?_
          rintro e wy ⟨rfl, hb23⟩
          exact ⟨_, rfl, hK _ _ hb23 rfl⟩
        · intro xv_ wx ρ hρ hwx hd K hK
          obtain ⟨g22, i22, r1, o_z22, o_y22⟩ : ∃ (g22 : Nat) (i22 : Nat), xv_ 1 = .agg #[.int .i64 a, .slice (some ⟨g22, 0, none⟩) zs.length zs.length, .slice (some ⟨i22, 0, none⟩) ds.length ds.length] ∧ ((wx).ownsRow w16.heap.size 26 4 (.slice (some ⟨g22, 0, none⟩) zs.length zs.length) zs.length (zs.flatMap cRecord)) ∧ ((wx).ownsRow w16.heap.size 3 1 (.slice (some ⟨i22, 0, none⟩) ds.length ds.length) ds.length (ds.flatMap cI)) := hd 1 rfl
          have e24 : ρ (.tmp 24) = .agg #[.int .i64 a, .slice (some ⟨g22, 0, none⟩) zs.length zs.length, .slice (some ⟨i22, 0, none⟩) ds.length ds.length] := (hρ.out 1 24 rfl (by rw [hs.size]; decide) rfl).trans r1
          obtain r3 : xv_ 3 = .agg #[.int .i64 x.f0, .int .i64 x.f1, .int .i64 x.f2, .string ⟨(x.f3).toArray⟩] := hd 3 rfl
          have e26 : ρ (.tmp 26) = .agg #[.int .i64 x.f0, .int .i64 x.f1, .int .i64 x.f2, .string ⟨(x.f3).toArray⟩] := (hρ.out 3 26 rfl (by rw [hs.size]; decide) rfl).trans r3
          refine g_call rfl (hρ.fn _) Try.call51 (arr2 e24 e26) ?_
          refine (sKeepRecord_v _ _ _ _ _ _ _ zs ds x _ rfl hm1 (own_cap o_z22).1 hT (Rd.of_own o_z22) (own_nil o_z22) rfl hm2 (own_nil o_y22) (Rd.of_own o_y22) hTx).mono ?_
          rintro e wy ⟨A24, c24, B24, d24, rfl, o_z24, o_y24, hb24⟩
          exact ⟨_, rfl, hK _ _ hb24 ⟨A24, c24, B24, d24, rfl, own_base o_z24 hwx.size, own_base o_y24 hwx.size⟩⟩
        · intro xv_ wx ρ hρ hwx hd K hK
          refine g_alloc rfl Try.zeroValue50 rfl ?_
          intro q w' N
          exact hK _ _ N.below ⟨q, rfl, Nat.le_trans hwx.size N.lo, N.here⟩
      · intro x0_ w26 hb_w26 hr0
        obtain r0 : x0_ 0 = .agg #[.int .i64 a, .slice A zs.length cp, .slice B ds.length dp] := hr0 0 (by decide) rfl rfl
        obtain ⟨g22, i22, r1, o_z22, o_y22⟩ : ∃ (g22 : Nat) (i22 : Nat), x0_ 1 = .agg #[.int .i64 a, .slice (some ⟨g22, 0, none⟩) zs.length zs.length, .slice (some ⟨i22, 0, none⟩) ds.length ds.length] ∧ ((w26).ownsRow w16.heap.size 26 4 (.slice (some ⟨g22, 0, none⟩) zs.length zs.length) zs.length (zs.flatMap cRecord)) ∧ ((w26).ownsRow w16.heap.size 3 1 (.slice (some ⟨i22, 0, none⟩) ds.length ds.length) ds.length (ds.flatMap cI)) := hr0 1 (by decide) rfl rfl
        obtain r2 : x0_ 2 = .agg #[.int .i64 x.f0, .int .i64 x.f1, .int .i64 x.f2, .string ⟨(x.f3).toArray⟩] := hr0 2 (by decide) rfl rfl
        obtain r3 : x0_ 3 = .agg #[.int .i64 x.f0, .int .i64 x.f1, .int .i64 x.f2, .string ⟨(x.f3).toArray⟩] := hr0 3 (by decide) rfl rfl
        obtain ⟨A24, c24, B24, d24, r4, o_z24, o_y24⟩ : ∃ (A24 : Option Addr) (c24 : Nat) (B24 : Option Addr) (d24 : Nat), x0_ 4 = .agg #[.int .i64 a, .slice A24 ((keepR a zs ds x).1.length) c24, .slice B24 ((keepR a zs ds x).2.length) d24] ∧ ((w26).ownsRow w16.heap.size 26 4 (.slice A24 ((keepR a zs ds x).1.length) c24) ((keepR a zs ds x).1.length) (((keepR a zs ds x).1).flatMap cRecord)) ∧ ((w26).ownsRow w16.heap.size 3 1 (.slice B24 ((keepR a zs ds x).2.length) d24) ((keepR a zs ds x).2.length) (((keepR a zs ds x).2).flatMap cI)) := hr0 4 (by decide) rfl rfl
        obtain ⟨q25, r5, g0_q25, h_q25⟩ : ∃ q25, x0_ 5 = .pointer (some ⟨q25, 0, none⟩) ∧ w16.heap.size ≤ q25 ∧ w26.heap[q25]? = some (.cells #[.int .i64 0, .slice none 0 0, .slice none 0 0] 50 (0, 0)) := hr0 5 (by decide) rfl rfl
        clear hr0
        have m_z24_y24 := own_ne_type o_z24 o_y24 (by decide)
        have m_y24_z24 := ne_row_symm m_z24_y24
        have d_z24_q2 := own_ne_box o_z24 (lt_of_block h_q2)
        have d_z24_q4 := own_ne_box o_z24 (lt_of_block h_q4)
        have g_z24 : ∀ b, (A24 : Option Addr).map (·.block) = some b → w.heap.size ≤ b := fun b h => Nat.le_trans hB.size (own_row o_z24 b h).1
        replace o_z24 := own_base (base := w.heap.size) o_z24 hB.size
        have d_y24_q2 := own_ne_box o_y24 (lt_of_block h_q2)
        have d_y24_q4 := own_ne_box o_y24 (lt_of_block h_q4)
        have g_y24 : ∀ b, (B24 : Option Addr).map (·.block) = some b → w.heap.size ≤ b := fun b h => Nat.le_trans hB.size (own_row o_y24 b h).1
        replace o_y24 := own_base (base := w.heap.size) o_y24 hB.size
        have n_q2_q25 : NeB q2 q25 := ⟨fun e => by have := lt_of_block h_q2; omega⟩
        have n_q25_q2 := n_q2_q25.symm
        have n_q4_q25 : NeB q4 q25 := ⟨fun e => by have := lt_of_block h_q4; omega⟩
        have n_q25_q4 := n_q4_q25.symm
        have g_q25 : GeB w.heap.size q25 := ⟨Nat.le_trans hB.size g0_q25⟩
        clear g0_q25
        have d_z24_q25 := own_ne_cells o_z24 h_q25 (by decide)
        have d_y24_q25 := own_ne_cells o_y24 h_q25 (by decide)
        replace h_q2 := keep_below h_q2 hb_w26
        replace h_q4 := keep_below h_q4 hb_w26
        replace hB := hB.trans (hb_w26.mono hB.size)
        clear hb_w26
        intro op_ ho_ xv_ ρ hρ qx_ ql_ qk_
        obtain rfl := Option.some.inj ho_
        clear ho_
        have e6 : ρ (.tmp 6) = .pointer (some ⟨q25, 0, none⟩) := (hρ.out 5 6 rfl (by rw [hs.size]; decide) rfl).trans ((qx_ 5 (by decide) rfl rfl).trans r5)
        have e27 : ρ (.tmp 27) = .agg #[.int .i64 a, .slice A24 ((keepR a zs ds x).1.length) c24, .slice B24 ((keepR a zs ds x).2.length) d24] := (hρ.out 4 27 rfl (by rw [hs.size]; decide) rfl).trans ((qx_ 4 (by decide) rfl rfl).trans r4)
        refine g_storeB rfl e6 e27 Try.sizeOf50 rfl rfl h_q25 rfl ?_
        intro w27 W_w27
        replace h_q2 := keep_wrote h_q2 W_w27 n_q25_q2
        replace h_q4 := keep_wrote h_q4 W_w27 n_q25_q4
        replace h_q25 := W_w27.here
        replace o_z24 := own_wrote o_z24 W_w27 d_z24_q25
        replace o_y24 := own_wrote o_y24 W_w27 d_y24_q25
        replace hB := below_wrote hB hB.size W_w27 g_q25.le
        clear W_w27
        clear e27 e6
        clear hρ qx_ ql_ qk_
        intro xv_ a17 hρ hsz hdf qx_ ql_ qk_ qlk_
        replace s2 : a17.eval (.tmp 2) = .pointer (some ⟨q2, 0, none⟩) := (hρ.inn 2 rfl).trans s2
        replace s3 : a17.eval (.tmp 3) = .pointer (some ⟨q4, 0, none⟩) := (hρ.inn 3 rfl).trans s3
        replace s4 : a17.eval (.tmp 4) = .bool false := (hρ.inn 4 rfl).trans s4
        have s6 : a17.eval (.tmp 6) = .pointer (some ⟨q25, 0, none⟩) := (hρ.out 5 6 rfl (by rw [hs.size]; decide)).trans ((qx_ 5 (by decide) rfl rfl).trans r5)
        replace hs : St 82 a17 := ⟨hsz.trans hs.size, hdf.trans hs.nodef⟩
        clear hρ hsz hdf qx_ ql_ qk_ qlk_
        refine hK21 _ _ ?_
        clear hK21
        refine wp_seq_k fun K28 hK28 => ?_
        refine wp_region_lit ?_
        refine q_val rfl rfl ?_
        refine g_loadB rfl s2 Try.isAgg61 Try.sizeOf61 rfl h_q2 ?_
        intro a18 p18
        have s28 : a18.eval (.tmp 28) = .agg #[.int .i64 a, .slice A zs.length cp, .slice B ds.length dp] := p18.at hs (by decide)
        replace hs := p18.st hs
        refine q_val rfl rfl ?_
        refine g_call rfl rfl Try.call42 (arr1 s28) ?_
        refine (toRecorder_any _ _ _ _ _ _ _ zs ds _ rfl hm1 (hr_z.below hB) rfl hm2 (hr_d.below hB)).mono ?_
        rintro e w30 ⟨g29, i29, rfl, o_z29, o_y29, _, hb29⟩
        refine ⟨_, rfl, ?_⟩
        have m_z29_y29 := own_ne_type o_z29 o_y29 (by decide)
        have m_y29_z29 := ne_row_symm m_z29_y29
        have d_z29_q2 := own_ne_box o_z29 (lt_of_block h_q2)
        have d_z29_q4 := own_ne_box o_z29 (lt_of_block h_q4)
        have d_z29_q25 := own_ne_box o_z29 (lt_of_block h_q25)
        have m_z24_z29 := own_ne_row o_z24 o_z29 (Nat.le_refl _)
        have m_z29_z24 := ne_row_symm m_z24_z29
        have m_y24_z29 := own_ne_row o_y24 o_z29 (Nat.le_refl _)
        have m_z29_y24 := ne_row_symm m_y24_z29
        have g_z29 : ∀ b, ((some ⟨g29, 0, none⟩) : Option Addr).map (·.block) = some b → w.heap.size ≤ b := fun b h => Nat.le_trans hB.size (own_row o_z29 b h).1
        replace o_z29 := own_base (base := w.heap.size) o_z29 hB.size
        have d_y29_q2 := own_ne_box o_y29 (lt_of_block h_q2)
        have d_y29_q4 := own_ne_box o_y29 (lt_of_block h_q4)
        have d_y29_q25 := own_ne_box o_y29 (lt_of_block h_q25)
        have m_z24_y29 := own_ne_row o_z24 o_y29 (Nat.le_refl _)
        have m_y29_z24 := ne_row_symm m_z24_y29
        have m_y24_y29 := own_ne_row o_y24 o_y29 (Nat.le_refl _)
        have m_y29_y24 := ne_row_symm m_y24_y29
        have g_y29 : ∀ b, ((some ⟨i29, 0, none⟩) : Option Addr).map (·.block) = some b → w.heap.size ≤ b := fun b h => Nat.le_trans hB.size (own_row o_y29 b h).1
        replace o_y29 := own_base (base := w.heap.size) o_y29 hB.size
        replace h_q2 := keep_below h_q2 hb29
        replace h_q4 := keep_below h_q4 hb29
        replace h_q25 := keep_below h_q25 hb29
        replace o_z24 := own_below o_z24 hb29
        replace o_y24 := own_below o_y24 hb29
        replace hB := hB.trans (hb29.mono hB.size)
        clear hb29
        intro a19 p19
        have s29 : a19.eval (.tmp 29) = .agg #[.int .i64 a, .slice (some ⟨g29, 0, none⟩) zs.length zs.length, .slice (some ⟨i29, 0, none⟩) ds.length ds.length] := p19.at hs (by decide)
        replace hs := p19.st hs
        refine q_val rfl rfl ?_
        refine g_alloc rfl Try.zeroValue50 rfl ?_
        intro q31 w32 N_q31
        have n_q2_q31 := N_q31.ne ⟨lt_of_block h_q2⟩
        have n_q31_q2 := n_q2_q31.symm
        have n_q4_q31 := N_q31.ne ⟨lt_of_block h_q4⟩
        have n_q31_q4 := n_q4_q31.symm
        have n_q25_q31 := N_q31.ne ⟨lt_of_block h_q25⟩
        have n_q31_q25 := n_q25_q31.symm
        have d_z24_q31 := own_ne_new o_z24 N_q31
        have d_y24_q31 := own_ne_new o_y24 N_q31
        have d_z29_q31 := own_ne_new o_z29 N_q31
        have d_y29_q31 := own_ne_new o_y29 N_q31
        have g_q31 : GeB w.heap.size q31 := ⟨Nat.le_trans hB.size N_q31.lo⟩
        replace h_q2 := keep_below h_q2 N_q31.below
        replace h_q4 := keep_below h_q4 N_q31.below
        replace h_q25 := keep_below h_q25 N_q31.below
        replace o_z24 := own_below o_z24 N_q31.below
        replace o_y24 := own_below o_y24 N_q31.below
        replace o_z29 := own_below o_z29 N_q31.below
        replace o_y29 := own_below o_y29 N_q31.below
        replace hB := below_new hB hB.size N_q31
        have h_q31 := N_q31.here
        clear N_q31
        intro a20 p20
        have s7 : a20.eval (.tmp 7) = .pointer (some ⟨q31, 0, none⟩) := p20.at hs (by decide)
        replace hs := p20.st hs
        refine q_eff rfl rfl ?_
        refine g_storeB rfl s7 ((p20.ne rfl).trans s29) Try.sizeOf50 rfl rfl h_q31 rfl ?_
        intro w33 W_w33
        replace h_q2 := keep_wrote h_q2 W_w33 n_q31_q2
        replace h_q4 := keep_wrote h_q4 W_w33 n_q31_q4
        replace h_q25 := keep_wrote h_q25 W_w33 n_q31_q25
        replace h_q31 := W_w33.here
        replace o_z24 := own_wrote o_z24 W_w33 d_z24_q31
        replace o_y24 := own_wrote o_y24 W_w33 d_y24_q31
        replace o_z29 := own_wrote o_z29 W_w33 d_z29_q31
        replace o_y29 := own_wrote o_y29 W_w33 d_y29_q31
        replace hB := below_wrote hB hB.size W_w33 g_q31.le
        clear W_w33
        refine wpList_nil ?_
        replace s2 : a20.eval (.tmp 2) = .pointer (some ⟨q2, 0, none⟩) := ((p20.ne rfl).trans ((p19.ne rfl).trans (p18.ne rfl))).trans s2
        replace s3 : a20.eval (.tmp 3) = .pointer (some ⟨q4, 0, none⟩) := ((p20.ne rfl).trans ((p19.ne rfl).trans (p18.ne rfl))).trans s3
        replace s4 : a20.eval (.tmp 4) = .bool false := ((p20.ne rfl).trans ((p19.ne rfl).trans (p18.ne rfl))).trans s4
        replace s6 : a20.eval (.tmp 6) = .pointer (some ⟨q25, 0, none⟩) := ((p20.ne rfl).trans ((p19.ne rfl).trans (p18.ne rfl))).trans s6
        refine hK28 _ _ ?_
        clear hK28
        refine wp_seq_k fun K34 hK34 => ?_
        refine wp_drawn (n := 82) [] [5] [] (fun k_ v_ wx => match k_ with | 0 => v_ = .agg #[.int .i64 a, .slice (some ⟨g29, 0, none⟩) zs.length zs.length, .slice (some ⟨i29, 0, none⟩) ds.length ds.length] | 1 => v_ = .agg #[.int .i64 x.f0, .int .i64 x.f1, .int .i64 x.f2, .string ⟨(x.f3).toArray⟩] | 2 => v_ = .agg #[.int .i64 x.f0, .int .i64 x.f1, .int .i64 x.f2, .string ⟨(x.f3).toArray⟩] | 3 => ∃ (A36 : Option Addr) (c36 : Nat) (B36 : Option Addr) (d36 : Nat), v_ = .agg #[.int .i64 a, .slice A36 ((keepR a zs ds x).1.length) c36, .slice B36 ((keepR a zs ds x).2.length) d36] ∧ ((wx).ownsRow w33.heap.size 26 4 (.slice A36 ((keepR a zs ds x).1.length) c36) ((keepR a zs ds x).1.length) (((keepR a zs ds x).1).flatMap cRecord)) ∧ ((wx).ownsRow w33.heap.size 3 1 (.slice B36 ((keepR a zs ds x).2.length) d36) ((keepR a zs ds x).2.length) (((keepR a zs ds x).2).flatMap cI)) | 4 => ∃ q37, v_ = .pointer (some ⟨q37, 0, none⟩) ∧ w33.heap.size ≤ q37 ∧ wx.heap[q37]? = some (.cells #[.int .i64 0, .slice none 0 0, .slice none 0 0] 50 (0, 0)) | _ => True) (by kernel_rfl) (by kernel_rfl) (by kernel_rfl) (by kernel_rfl) hs.size ?_ ?_ ?_
        · intro i v wa wb hb hr
          rcases i with _ | _ | _ | _ | _ | _ | i
          · exact hr
          · exact hr
          · exact hr
          · obtain ⟨A36, c36, B36, d36, hr, o_z36, o_y36⟩ := hr; exact ⟨A36, c36, B36, d36, hr, own_below o_z36 hb, own_below o_y36 hb⟩
          · obtain ⟨q37, hr, hg, hh⟩ := hr; exact ⟨q37, hr, hg, keep_below hh hb⟩
          · trivial
          · trivial
        · refine d_step rfl rfl ?_ (d_step rfl rfl ?_ (d_step rfl rfl ?_ (d_step rfl rfl ?_ (d_step rfl rfl ?_ (d_chain rfl (d_nil))))))
          · intro xv_ wx ρ hρ hwx hd K hK
            have e7 : ρ (.tmp 7) = .pointer (some ⟨q31, 0, none⟩) := (hρ.inn 7 rfl).trans s7
            have h_q31 := keep_below h_q31 hwx
            refine g_loadB rfl e7 Try.isAgg50 Try.sizeOf50 rfl h_q31 ?_
            exact hK _ _ (Below.refl _ _) rfl
          · intro xv_ wx ρ hρ hwx hd K hK
            have e3 : ρ (.tmp 3) = .pointer (some ⟨q4, 0, none⟩) := (hρ.inn 3 rfl).trans s3
            have h_q4 := keep_below h_q4 hwx
            refine g_loadB rfl e3 Try.isAgg23 Try.sizeOf23 rfl h_q4 ?_
            exact hK _ _ (Below.refl _ _) rfl
          · intro xv_ wx ρ hρ hwx hd K hK
            obtain r1 : xv_ 1 = .agg #[.int .i64 x.f0, .int .i64 x.f1, .int .i64 x.f2, .string ⟨(x.f3).toArray⟩] := hd 1 rfl
            have e31 : ρ (.tmp 31) = .agg #[.int .i64 x.f0, .int .i64 x.f1, .int .i64 x.f2, .string ⟨(x.f3).toArray⟩] := (hρ.out 1 31 rfl (by rw [hs.size]; decide) rfl).trans r1
            refine g_call rfl (hρ.fn _) Try.call17 (arr1 e31) ?_
            refine (toRecord_any _ _ _ _ _).mono ?_
            rintro e wy ⟨rfl, hb35⟩
            exact ⟨_, rfl, hK _ _ hb35 rfl⟩
          · intro xv_ wx ρ hρ hwx hd K hK
            obtain r0 : xv_ 0 = .agg #[.int .i64 a, .slice (some ⟨g29, 0, none⟩) zs.length zs.length, .slice (some ⟨i29, 0, none⟩) ds.length ds.length] := hd 0 rfl
            have e30 : ρ (.tmp 30) = .agg #[.int .i64 a, .slice (some ⟨g29, 0, none⟩) zs.length zs.length, .slice (some ⟨i29, 0, none⟩) ds.length ds.length] := (hρ.out 0 30 rfl (by rw [hs.size]; decide) rfl).trans r0
            obtain r2 : xv_ 2 = .agg #[.int .i64 x.f0, .int .i64 x.f1, .int .i64 x.f2, .string ⟨(x.f3).toArray⟩] := hd 2 rfl
            have e32 : ρ (.tmp 32) = .agg #[.int .i64 x.f0, .int .i64 x.f1, .int .i64 x.f2, .string ⟨(x.f3).toArray⟩] := (hρ.out 2 32 rfl (by rw [hs.size]; decide) rfl).trans r2
            refine g_call rfl (hρ.fn _) Try.call34 (arr2 e30 e32) ?_
            refine (keepRecord_v _ _ _ _ _ _ _ zs ds x _ rfl hm1 (own_cap o_z29).1 hT ((Rd.of_own o_z29).below hwx) (own_nil o_z29) rfl hm2 (own_nil o_y29) ((Rd.of_own o_y29).below hwx) hTx).mono ?_
            rintro e wy ⟨A36, c36, B36, d36, rfl, o_z36, o_y36, hb36⟩
            exact ⟨_, rfl, hK _ _ hb36 ⟨A36, c36, B36, d36, rfl, own_base o_z36 hwx.size, own_base o_y36 hwx.size⟩⟩
          · intro xv_ wx ρ hρ hwx hd K hK
            refine g_alloc rfl Try.zeroValue50 rfl ?_
            intro q w' N
            exact hK _ _ N.below ⟨q, rfl, Nat.le_trans hwx.size N.lo, N.here⟩
        · intro x0_ w38 hb_w38 hr0
          obtain r0 : x0_ 0 = .agg #[.int .i64 a, .slice (some ⟨g29, 0, none⟩) zs.length zs.length, .slice (some ⟨i29, 0, none⟩) ds.length ds.length] := hr0 0 (by decide) rfl rfl
          obtain r1 : x0_ 1 = .agg #[.int .i64 x.f0, .int .i64 x.f1, .int .i64 x.f2, .string ⟨(x.f3).toArray⟩] := hr0 1 (by decide) rfl rfl
          obtain r2 : x0_ 2 = .agg #[.int .i64 x.f0, .int .i64 x.f1, .int .i64 x.f2, .string ⟨(x.f3).toArray⟩] := hr0 2 (by decide) rfl rfl
          obtain ⟨A36, c36, B36, d36, r3, o_z36, o_y36⟩ : ∃ (A36 : Option Addr) (c36 : Nat) (B36 : Option Addr) (d36 : Nat), x0_ 3 = .agg #[.int .i64 a, .slice A36 ((keepR a zs ds x).1.length) c36, .slice B36 ((keepR a zs ds x).2.length) d36] ∧ ((w38).ownsRow w33.heap.size 26 4 (.slice A36 ((keepR a zs ds x).1.length) c36) ((keepR a zs ds x).1.length) (((keepR a zs ds x).1).flatMap cRecord)) ∧ ((w38).ownsRow w33.heap.size 3 1 (.slice B36 ((keepR a zs ds x).2.length) d36) ((keepR a zs ds x).2.length) (((keepR a zs ds x).2).flatMap cI)) := hr0 3 (by decide) rfl rfl
          obtain ⟨q37, r4, g0_q37, h_q37⟩ : ∃ q37, x0_ 4 = .pointer (some ⟨q37, 0, none⟩) ∧ w33.heap.size ≤ q37 ∧ w38.heap[q37]? = some (.cells #[.int .i64 0, .slice none 0 0, .slice none 0 0] 50 (0, 0)) := hr0 4 (by decide) rfl rfl
          clear hr0
          have m_z36_y36 := own_ne_type o_z36 o_y36 (by decide)
          have m_y36_z36 := ne_row_symm m_z36_y36
          have d_z36_q2 := own_ne_box o_z36 (lt_of_block h_q2)
          have d_z36_q4 := own_ne_box o_z36 (lt_of_block h_q4)
          have d_z36_q25 := own_ne_box o_z36 (lt_of_block h_q25)
          have d_z36_q31 := own_ne_box o_z36 (lt_of_block h_q31)
          have m_z24_z36 := own_ne_row o_z24 o_z36 (Nat.le_refl _)
          have m_z36_z24 := ne_row_symm m_z24_z36
          have m_y24_z36 := own_ne_row o_y24 o_z36 (Nat.le_refl _)
          have m_z36_y24 := ne_row_symm m_y24_z36
          have m_z29_z36 := own_ne_row o_z29 o_z36 (Nat.le_refl _)
          have m_z36_z29 := ne_row_symm m_z29_z36
          have m_y29_z36 := own_ne_row o_y29 o_z36 (Nat.le_refl _)
          have m_z36_y29 := ne_row_symm m_y29_z36
          have g_z36 : ∀ b, (A36 : Option Addr).map (·.block) = some b → w.heap.size ≤ b := fun b h => Nat.le_trans hB.size (own_row o_z36 b h).1
          replace o_z36 := own_base (base := w.heap.size) o_z36 hB.size
          have d_y36_q2 := own_ne_box o_y36 (lt_of_block h_q2)
          have d_y36_q4 := own_ne_box o_y36 (lt_of_block h_q4)
          have d_y36_q25 := own_ne_box o_y36 (lt_of_block h_q25)
          have d_y36_q31 := own_ne_box o_y36 (lt_of_block h_q31)
          have m_z24_y36 := own_ne_row o_z24 o_y36 (Nat.le_refl _)
          have m_y36_z24 := ne_row_symm m_z24_y36
          have m_y24_y36 := own_ne_row o_y24 o_y36 (Nat.le_refl _)
          have m_y36_y24 := ne_row_symm m_y24_y36
          have m_z29_y36 := own_ne_row o_z29 o_y36 (Nat.le_refl _)
          have m_y36_z29 := ne_row_symm m_z29_y36
          have m_y29_y36 := own_ne_row o_y29 o_y36 (Nat.le_refl _)
          have m_y36_y29 := ne_row_symm m_y29_y36
          have g_y36 : ∀ b, (B36 : Option Addr).map (·.block) = some b → w.heap.size ≤ b := fun b h => Nat.le_trans hB.size (own_row o_y36 b h).1
          replace o_y36 := own_base (base := w.heap.size) o_y36 hB.size
          have n_q2_q37 : NeB q2 q37 := ⟨fun e => by have := lt_of_block h_q2; omega⟩
          have n_q37_q2 := n_q2_q37.symm
          have n_q4_q37 : NeB q4 q37 := ⟨fun e => by have := lt_of_block h_q4; omega⟩
          have n_q37_q4 := n_q4_q37.symm
          have n_q25_q37 : NeB q25 q37 := ⟨fun e => by have := lt_of_block h_q25; omega⟩
          have n_q37_q25 := n_q25_q37.symm
          have n_q31_q37 : NeB q31 q37 := ⟨fun e => by have := lt_of_block h_q31; omega⟩
          have n_q37_q31 := n_q31_q37.symm
          have d_z24_q37 := own_ne o_z24 (.inr g0_q37)
          have d_y24_q37 := own_ne o_y24 (.inr g0_q37)
          have d_z29_q37 := own_ne o_z29 (.inr g0_q37)
          have d_y29_q37 := own_ne o_y29 (.inr g0_q37)
          have g_q37 : GeB w.heap.size q37 := ⟨Nat.le_trans hB.size g0_q37⟩
          clear g0_q37
          have d_z36_q37 := own_ne_cells o_z36 h_q37 (by decide)
          have d_y36_q37 := own_ne_cells o_y36 h_q37 (by decide)
          replace h_q2 := keep_below h_q2 hb_w38
          replace h_q4 := keep_below h_q4 hb_w38
          replace h_q25 := keep_below h_q25 hb_w38
          replace h_q31 := keep_below h_q31 hb_w38
          replace o_z24 := own_below o_z24 hb_w38
          replace o_y24 := own_below o_y24 hb_w38
          replace o_z29 := own_below o_z29 hb_w38
          replace o_y29 := own_below o_y29 hb_w38
          replace hB := hB.trans (hb_w38.mono hB.size)
          clear hb_w38
          intro op_ ho_ xv_ ρ hρ qx_ ql_ qk_
          obtain rfl := Option.some.inj ho_
          clear ho_
          have e8 : ρ (.tmp 8) = .pointer (some ⟨q37, 0, none⟩) := (hρ.out 4 8 rfl (by rw [hs.size]; decide) rfl).trans ((qx_ 4 (by decide) rfl rfl).trans r4)
          have e33 : ρ (.tmp 33) = .agg #[.int .i64 a, .slice A36 ((keepR a zs ds x).1.length) c36, .slice B36 ((keepR a zs ds x).2.length) d36] := (hρ.out 3 33 rfl (by rw [hs.size]; decide) rfl).trans ((qx_ 3 (by decide) rfl rfl).trans r3)
          refine g_storeB rfl e8 e33 Try.sizeOf50 rfl rfl h_q37 rfl ?_
          intro w39 W_w39
          replace h_q2 := keep_wrote h_q2 W_w39 n_q37_q2
          replace h_q4 := keep_wrote h_q4 W_w39 n_q37_q4
          replace h_q25 := keep_wrote h_q25 W_w39 n_q37_q25
          replace h_q31 := keep_wrote h_q31 W_w39 n_q37_q31
          replace h_q37 := W_w39.here
          replace o_z24 := own_wrote o_z24 W_w39 d_z24_q37
          replace o_y24 := own_wrote o_y24 W_w39 d_y24_q37
          replace o_z29 := own_wrote o_z29 W_w39 d_z29_q37
          replace o_y29 := own_wrote o_y29 W_w39 d_y29_q37
          replace o_z36 := own_wrote o_z36 W_w39 d_z36_q37
          replace o_y36 := own_wrote o_y36 W_w39 d_y36_q37
          replace hB := below_wrote hB hB.size W_w39 g_q37.le
          clear W_w39
          clear e33 e8
          clear hρ qx_ ql_ qk_
          intro xv_ a21 hρ hsz hdf qx_ ql_ qk_ qlk_
          replace s2 : a21.eval (.tmp 2) = .pointer (some ⟨q2, 0, none⟩) := (hρ.inn 2 rfl).trans s2
          replace s3 : a21.eval (.tmp 3) = .pointer (some ⟨q4, 0, none⟩) := (hρ.inn 3 rfl).trans s3
          replace s4 : a21.eval (.tmp 4) = .bool false := (hρ.inn 4 rfl).trans s4
          replace s6 : a21.eval (.tmp 6) = .pointer (some ⟨q25, 0, none⟩) := (hρ.inn 6 rfl).trans s6
          replace s7 : a21.eval (.tmp 7) = .pointer (some ⟨q31, 0, none⟩) := (hρ.inn 7 rfl).trans s7
          have s8 : a21.eval (.tmp 8) = .pointer (some ⟨q37, 0, none⟩) := (hρ.out 4 8 rfl (by rw [hs.size]; decide)).trans ((qx_ 4 (by decide) rfl rfl).trans r4)
          replace hs : St 82 a21 := ⟨hsz.trans hs.size, hdf.trans hs.nodef⟩
          clear hρ hsz hdf qx_ ql_ qk_ qlk_
          refine hK34 _ _ ?_
          clear hK34
          refine wp_seq_k fun K40 hK40 => ?_
          refine wp_seq_k fun K41 hK41 => ?_
          refine wp_region_lit ?_
          refine q_val rfl rfl ?_
          refine g_loadB rfl s8 Try.isAgg50 Try.sizeOf50 rfl h_q37 ?_
          intro a22 p22
          have s34 : a22.eval (.tmp 34) = .agg #[.int .i64 a, .slice A36 ((keepR a zs ds x).1.length) c36, .slice B36 ((keepR a zs ds x).2.length) d36] := p22.at hs (by decide)
          replace hs := p22.st hs
          refine q_val rfl rfl ?_
          refine g_loadB rfl ((p22.ne rfl).trans s6) Try.isAgg50 Try.sizeOf50 rfl h_q25 ?_
          intro a23 p23
          have s35 : a23.eval (.tmp 35) = .agg #[.int .i64 a, .slice A24 ((keepR a zs ds x).1.length) c24, .slice B24 ((keepR a zs ds x).2.length) d24] := p23.at hs (by decide)
          replace hs := p23.st hs
          refine q_val rfl rfl ?_
          refine g_call rfl rfl Try.call43 (arr2 ((p23.ne rfl).trans s34) s35) ?_
          refine (eqRecorder_same _ _ _ _ _ _ _ _ _ _ _ _ _ ((keepR a zs ds x).1) ((keepR a zs ds x).2) _ rfl rfl (by omega) rfl rfl (by omega) (Rd.of_own o_z36) (Rd.of_own o_z24) (Rd.of_own o_y36) (Rd.of_own o_y24)).mono ?_
          rintro e w43 ⟨rfl, hb42⟩
          refine ⟨_, rfl, ?_⟩
          replace h_q2 := keep_below h_q2 hb42
          replace h_q4 := keep_below h_q4 hb42
          replace h_q25 := keep_below h_q25 hb42
          replace h_q31 := keep_below h_q31 hb42
          replace h_q37 := keep_below h_q37 hb42
          replace o_z24 := own_below o_z24 hb42
          replace o_y24 := own_below o_y24 hb42
          replace o_z29 := own_below o_z29 hb42
          replace o_y29 := own_below o_y29 hb42
          replace o_z36 := own_below o_z36 hb42
          replace o_y36 := own_below o_y36 hb42
          replace hB := hB.trans (hb42.mono hB.size)
          clear hb42
          intro a24 p24
          have s36 : a24.eval (.tmp 36) = .bool true := p24.at hs (by decide)
          replace hs := p24.st hs
          refine q_val rfl rfl ?_
          refine g_not rfl s36 ?_
          intro a25 p25
          have s37 : a25.eval (.tmp 37) = .bool false := p25.at hs (by decide)
          replace hs := p25.st hs
          refine wpList_nil ?_
          replace s2 : a25.eval (.tmp 2) = .pointer (some ⟨q2, 0, none⟩) := ((p25.ne rfl).trans ((p24.ne rfl).trans ((p23.ne rfl).trans (p22.ne rfl)))).trans s2
          replace s3 : a25.eval (.tmp 3) = .pointer (some ⟨q4, 0, none⟩) := ((p25.ne rfl).trans ((p24.ne rfl).trans ((p23.ne rfl).trans (p22.ne rfl)))).trans s3
          replace s4 : a25.eval (.tmp 4) = .bool false := ((p25.ne rfl).trans ((p24.ne rfl).trans ((p23.ne rfl).trans (p22.ne rfl)))).trans s4
          replace s6 : a25.eval (.tmp 6) = .pointer (some ⟨q25, 0, none⟩) := ((p25.ne rfl).trans ((p24.ne rfl).trans ((p23.ne rfl).trans (p22.ne rfl)))).trans s6
          replace s7 : a25.eval (.tmp 7) = .pointer (some ⟨q31, 0, none⟩) := ((p25.ne rfl).trans ((p24.ne rfl).trans ((p23.ne rfl).trans (p22.ne rfl)))).trans s7
          replace s8 : a25.eval (.tmp 8) = .pointer (some ⟨q37, 0, none⟩) := ((p25.ne rfl).trans ((p24.ne rfl).trans ((p23.ne rfl).trans (p22.ne rfl)))).trans s8
          refine hK41 _ _ ?_
          clear hK41
          refine c_false s37 ?_
          refine wp_skip ?_
          refine hK40 _ _ ?_
          clear hK40
          refine wp_seq_k fun K44 hK44 => ?_
          refine wp_seq_k fun K45 hK45 => ?_
          refine wp_drawn (n := 82) [] [] [] (fun k_ v_ wx => match k_ with | 0 => v_ = .agg #[.int .i64 a, .slice (some ⟨g29, 0, none⟩) zs.length zs.length, .slice (some ⟨i29, 0, none⟩) ds.length ds.length] | 1 => v_ = .agg #[.int .i64 a, .slice A zs.length cp, .slice B ds.length dp] | 2 => ∃ (g46 : Nat) (i46 : Nat), v_ = .agg #[.int .i64 a, .slice (some ⟨g46, 0, none⟩) zs.length zs.length, .slice (some ⟨i46, 0, none⟩) ds.length ds.length] ∧ ((wx).ownsRow w43.heap.size 26 4 (.slice (some ⟨g46, 0, none⟩) zs.length zs.length) zs.length (zs.flatMap cRecord)) ∧ ((wx).ownsRow w43.heap.size 3 1 (.slice (some ⟨i46, 0, none⟩) ds.length ds.length) ds.length (ds.flatMap cI)) | 3 => v_ = .bool true | 4 => v_ = .bool false | _ => True) (by kernel_rfl) (by kernel_rfl) (by kernel_rfl) (by kernel_rfl) hs.size ?_ ?_ ?_
          · intro i v wa wb hb hr
            rcases i with _ | _ | _ | _ | _ | i
            · exact hr
            · exact hr
            · obtain ⟨g46, i46, hr, o_z46, o_y46⟩ := hr; exact ⟨g46, i46, hr, own_below o_z46 hb, own_below o_y46 hb⟩
            · exact hr
            · exact hr
            · trivial
          · refine d_step rfl rfl ?_ (d_step rfl rfl ?_ (d_step rfl rfl ?_ (d_step rfl rfl ?_ (d_step rfl rfl ?_ (d_nil)))))
            · intro xv_ wx ρ hρ hwx hd K hK
              have e7 : ρ (.tmp 7) = .pointer (some ⟨q31, 0, none⟩) := (hρ.inn 7 rfl).trans s7
              have h_q31 := keep_below h_q31 hwx
              refine g_loadB rfl e7 Try.isAgg50 Try.sizeOf50 rfl h_q31 ?_
              exact hK _ _ (Below.refl _ _) rfl
            · intro xv_ wx ρ hρ hwx hd K hK
              have e2 : ρ (.tmp 2) = .pointer (some ⟨q2, 0, none⟩) := (hρ.inn 2 rfl).trans s2
              have h_q2 := keep_below h_q2 hwx
              refine g_loadB rfl e2 Try.isAgg61 Try.sizeOf61 rfl h_q2 ?_
              exact hK _ _ (Below.refl _ _) rfl
            · intro xv_ wx ρ hρ hwx hd K hK
              obtain r1 : xv_ 1 = .agg #[.int .i64 a, .slice A zs.length cp, .slice B ds.length dp] := hd 1 rfl
              have e39 : ρ (.tmp 39) = .agg #[.int .i64 a, .slice A zs.length cp, .slice B ds.length dp] := (hρ.out 1 39 rfl (by rw [hs.size]; decide) rfl).trans r1
              refine g_call rfl (hρ.fn _) Try.call42 (arr1 e39) ?_
              refine (toRecorder_any _ _ _ _ _ _ _ zs ds _ rfl hm1 ((hr_z.below hB).below hwx) rfl hm2 ((hr_d.below hB).below hwx)).mono ?_
              rintro e wy ⟨g46, i46, rfl, o_z46, o_y46, _, hb46⟩
              exact ⟨_, rfl, hK _ _ hb46 ⟨g46, i46, rfl, own_base o_z46 hwx.size, own_base o_y46 hwx.size⟩⟩
            · intro xv_ wx ρ hρ hwx hd K hK
              obtain r0 : xv_ 0 = .agg #[.int .i64 a, .slice (some ⟨g29, 0, none⟩) zs.length zs.length, .slice (some ⟨i29, 0, none⟩) ds.length ds.length] := hd 0 rfl
              have e38 : ρ (.tmp 38) = .agg #[.int .i64 a, .slice (some ⟨g29, 0, none⟩) zs.length zs.length, .slice (some ⟨i29, 0, none⟩) ds.length ds.length] := (hρ.out 0 38 rfl (by rw [hs.size]; decide) rfl).trans r0
              obtain ⟨g46, i46, r2, o_z46, o_y46⟩ : ∃ (g46 : Nat) (i46 : Nat), xv_ 2 = .agg #[.int .i64 a, .slice (some ⟨g46, 0, none⟩) zs.length zs.length, .slice (some ⟨i46, 0, none⟩) ds.length ds.length] ∧ ((wx).ownsRow w43.heap.size 26 4 (.slice (some ⟨g46, 0, none⟩) zs.length zs.length) zs.length (zs.flatMap cRecord)) ∧ ((wx).ownsRow w43.heap.size 3 1 (.slice (some ⟨i46, 0, none⟩) ds.length ds.length) ds.length (ds.flatMap cI)) := hd 2 rfl
              have e40 : ρ (.tmp 40) = .agg #[.int .i64 a, .slice (some ⟨g46, 0, none⟩) zs.length zs.length, .slice (some ⟨i46, 0, none⟩) ds.length ds.length] := (hρ.out 2 40 rfl (by rw [hs.size]; decide) rfl).trans r2
              refine g_call rfl (hρ.fn _) Try.call43 (arr2 e38 e40) ?_
              refine (eqRecorder_same _ _ _ _ _ _ _ _ _ _ _ _ _ zs ds _ rfl rfl (by omega) rfl rfl (by omega) ((Rd.of_own o_z29).below hwx) (Rd.of_own o_z46) ((Rd.of_own o_y29).below hwx) (Rd.of_own o_y46)).mono ?_
              rintro e wy ⟨rfl, hb47⟩
              exact ⟨_, rfl, hK _ _ hb47 rfl⟩
            · intro xv_ wx ρ hρ hwx hd K hK
              obtain r3 : xv_ 3 = .bool true := hd 3 rfl
              have e41 : ρ (.tmp 41) = .bool true := (hρ.out 3 41 rfl (by rw [hs.size]; decide) rfl).trans r3
              refine g_not rfl e41 ?_
              exact hK _ _ (Below.refl _ _) rfl
          · intro x0_ w48 hb_w48 hr0
            obtain r0 : x0_ 0 = .agg #[.int .i64 a, .slice (some ⟨g29, 0, none⟩) zs.length zs.length, .slice (some ⟨i29, 0, none⟩) ds.length ds.length] := hr0 0 (by decide) rfl rfl
            obtain r1 : x0_ 1 = .agg #[.int .i64 a, .slice A zs.length cp, .slice B ds.length dp] := hr0 1 (by decide) rfl rfl
            obtain ⟨g46, i46, r2, o_z46, o_y46⟩ : ∃ (g46 : Nat) (i46 : Nat), x0_ 2 = .agg #[.int .i64 a, .slice (some ⟨g46, 0, none⟩) zs.length zs.length, .slice (some ⟨i46, 0, none⟩) ds.length ds.length] ∧ ((w48).ownsRow w43.heap.size 26 4 (.slice (some ⟨g46, 0, none⟩) zs.length zs.length) zs.length (zs.flatMap cRecord)) ∧ ((w48).ownsRow w43.heap.size 3 1 (.slice (some ⟨i46, 0, none⟩) ds.length ds.length) ds.length (ds.flatMap cI)) := hr0 2 (by decide) rfl rfl
            obtain r3 : x0_ 3 = .bool true := hr0 3 (by decide) rfl rfl
            obtain r4 : x0_ 4 = .bool false := hr0 4 (by decide) rfl rfl
            clear hr0
            replace h_q2 := keep_below h_q2 hb_w48
            replace h_q4 := keep_below h_q4 hb_w48
            replace h_q25 := keep_below h_q25 hb_w48
            replace h_q31 := keep_below h_q31 hb_w48
            replace h_q37 := keep_below h_q37 hb_w48
            replace o_z24 := own_below o_z24 hb_w48
            replace o_y24 := own_below o_y24 hb_w48
            replace o_z29 := own_below o_z29 hb_w48
            replace o_y29 := own_below o_y29 hb_w48
            replace o_z36 := own_below o_z36 hb_w48
            replace o_y36 := own_below o_y36 hb_w48
            replace hB := hB.trans (hb_w48.mono hB.size)
            clear hb_w48
            intro xv_ a26 hρ hsz hdf qx_ ql_ qk_ qlk_
            replace s2 : a26.eval (.tmp 2) = .pointer (some ⟨q2, 0, none⟩) := (hρ.inn 2 rfl).trans s2
            replace s3 : a26.eval (.tmp 3) = .pointer (some ⟨q4, 0, none⟩) := (hρ.inn 3 rfl).trans s3
            replace s4 : a26.eval (.tmp 4) = .bool false := (hρ.inn 4 rfl).trans s4
            replace s6 : a26.eval (.tmp 6) = .pointer (some ⟨q25, 0, none⟩) := (hρ.inn 6 rfl).trans s6
            replace s7 : a26.eval (.tmp 7) = .pointer (some ⟨q31, 0, none⟩) := (hρ.inn 7 rfl).trans s7
            replace s8 : a26.eval (.tmp 8) = .pointer (some ⟨q37, 0, none⟩) := (hρ.inn 8 rfl).trans s8
            have s42 : a26.eval (.tmp 42) = .bool false := (hρ.out 4 42 rfl (by rw [hs.size]; decide)).trans ((qx_ 4 (by decide) rfl rfl).trans r4)
            replace hs : St 82 a26 := ⟨hsz.trans hs.size, hdf.trans hs.nodef⟩
            clear hρ hsz hdf qx_ ql_ qk_ qlk_
            refine hK45 _ _ ?_
            clear hK45
            refine c_false s42 ?_
            refine wp_skip ?_
            refine hK44 _ _ ?_
            clear hK44
            refine wp_seq_k fun K49 hK49 => ?_
            refine wp_region_lit ?_
            refine q_val rfl rfl ?_
            refine g_assign rfl rfl ?_
            intro a27 p27
            have s9 : a27.eval (.tmp 9) = .int .i64 1 := p27.at hs (by decide)
            replace hs := p27.st hs
            refine wpList_nil ?_
            replace s2 : a27.eval (.tmp 2) = .pointer (some ⟨q2, 0, none⟩) := (p27.ne rfl).trans s2
            replace s3 : a27.eval (.tmp 3) = .pointer (some ⟨q4, 0, none⟩) := (p27.ne rfl).trans s3
            replace s4 : a27.eval (.tmp 4) = .bool false := (p27.ne rfl).trans s4
            replace s6 : a27.eval (.tmp 6) = .pointer (some ⟨q25, 0, none⟩) := (p27.ne rfl).trans s6
            replace s7 : a27.eval (.tmp 7) = .pointer (some ⟨q31, 0, none⟩) := (p27.ne rfl).trans s7
            replace s8 : a27.eval (.tmp 8) = .pointer (some ⟨q37, 0, none⟩) := (p27.ne rfl).trans s8
            refine hK49 _ _ ?_
            clear hK49
            refine wp_seq_k fun K50 hK50 => ?_
            refine wp_region_lit ?_
            refine q_val rfl rfl ?_
            refine g_loadB rfl s7 Try.isAgg50 Try.sizeOf50 rfl h_q31 ?_
            intro a28 p28
            have s43 : a28.eval (.tmp 43) = .agg #[.int .i64 a, .slice (some ⟨g29, 0, none⟩) zs.length zs.length, .slice (some ⟨i29, 0, none⟩) ds.length ds.length] := p28.at hs (by decide)
            replace hs := p28.st hs
            refine q_val rfl rfl ?_
            refine g_move rfl ((p28.ne rfl).trans s9) ?_
            intro a29 p29
            have s44 : a29.eval (.tmp 44) = .int .i64 1 := p29.at hs (by decide)
            replace hs := p29.st hs
            refine q_val rfl rfl ?_
            refine g_call rfl rfl Try.call47 (arr2 ((p29.ne rfl).trans s43) s44) ?_
            refine (markRecorder_any    _ (by omega) (by omega) (by omega) (by omega) o_z29 o_y29).mono ?_
            rintro e w51_1 ⟨rfl, w51_0, oo51_0, gg51_0, oo51_1, gg51_1⟩
            refine ⟨_, rfl, ?_⟩
            replace h_q2 := keep_grown h_q2 gg51_0 d_z29_q2
            replace h_q4 := keep_grown h_q4 gg51_0 d_z29_q4
            replace h_q25 := keep_grown h_q25 gg51_0 d_z29_q25
            replace h_q31 := keep_grown h_q31 gg51_0 d_z29_q31
            replace h_q37 := keep_grown h_q37 gg51_0 d_z29_q37
            replace o_z24 := own_grown o_z24 gg51_0 m_z24_z29
            replace o_y24 := own_grown o_y24 gg51_0 m_y24_z29
            replace o_y29 := own_grown o_y29 gg51_0 m_y29_z29
            replace o_z36 := own_grown o_z36 gg51_0 m_z36_z29
            replace o_y36 := own_grown o_y36 gg51_0 m_y36_z29
            replace hB := below_grown hB hB.size gg51_0 g_z29
            replace o_z29 := oo51_0
            clear gg51_0
            replace h_q2 := keep_grown h_q2 gg51_1 d_y29_q2
            replace h_q4 := keep_grown h_q4 gg51_1 d_y29_q4
            replace h_q25 := keep_grown h_q25 gg51_1 d_y29_q25
            replace h_q31 := keep_grown h_q31 gg51_1 d_y29_q31
            replace h_q37 := keep_grown h_q37 gg51_1 d_y29_q37
            replace o_z24 := own_grown o_z24 gg51_1 m_z24_y29
            replace o_y24 := own_grown o_y24 gg51_1 m_y24_y29
            replace o_z29 := own_grown o_z29 gg51_1 m_z29_y29
            replace o_z36 := own_grown o_z36 gg51_1 m_z36_y29
            replace o_y36 := own_grown o_y36 gg51_1 m_y36_y29
            replace hB := below_grown hB hB.size gg51_1 g_y29
            replace o_y29 := oo51_1
            clear gg51_1
            intro a30 p30
            have s45 : a30.eval (.tmp 45) = .int .i64 (1 + 4 * ((zs.length : Nat) : Int) + ((ds.length : Nat) : Int)) := p30.at hs (by decide)
            replace hs := p30.st hs
            refine q_val rfl rfl ?_
            refine g_assign rfl s45 ?_
            intro a31 p31
            have s9 : a31.eval (.tmp 9) = .int .i64 (1 + 4 * ((zs.length : Nat) : Int) + ((ds.length : Nat) : Int)) := p31.at hs (by decide)
            replace hs := p31.st hs
            refine wpList_nil ?_
            replace s2 : a31.eval (.tmp 2) = .pointer (some ⟨q2, 0, none⟩) := ((p31.ne rfl).trans ((p30.ne rfl).trans ((p29.ne rfl).trans (p28.ne rfl)))).trans s2
            replace s3 : a31.eval (.tmp 3) = .pointer (some ⟨q4, 0, none⟩) := ((p31.ne rfl).trans ((p30.ne rfl).trans ((p29.ne rfl).trans (p28.ne rfl)))).trans s3
            replace s4 : a31.eval (.tmp 4) = .bool false := ((p31.ne rfl).trans ((p30.ne rfl).trans ((p29.ne rfl).trans (p28.ne rfl)))).trans s4
            replace s6 : a31.eval (.tmp 6) = .pointer (some ⟨q25, 0, none⟩) := ((p31.ne rfl).trans ((p30.ne rfl).trans ((p29.ne rfl).trans (p28.ne rfl)))).trans s6
            replace s8 : a31.eval (.tmp 8) = .pointer (some ⟨q37, 0, none⟩) := ((p31.ne rfl).trans ((p30.ne rfl).trans ((p29.ne rfl).trans (p28.ne rfl)))).trans s8
            refine hK50 _ _ ?_
            clear hK50
            refine wp_seq_k fun K52 hK52 => ?_
            refine wp_seq_k fun K53 hK53 => ?_
            refine wp_region_lit ?_
            refine q_val rfl rfl ?_
            refine g_move rfl s9 ?_
            intro a32 p32
            have s46 : a32.eval (.tmp 46) = .int .i64 (1 + 4 * ((zs.length : Nat) : Int) + ((ds.length : Nat) : Int)) := p32.at hs (by decide)
            replace hs := p32.st hs
            refine q_val rfl rfl ?_
            refine g_lss rfl s46 rfl ?_
            intro a33 p33
            have s47 : a33.eval (.tmp 47) = .bool false := (p33.at hs (by decide)).trans (congrArg Value.bool (decide_eq_false (by omega)))
            replace hs := p33.st hs
            refine q_val rfl rfl ?_
            refine g_move rfl s47 ?_
            intro a34 p34
            have s48 : a34.eval (.tmp 48) = .bool false := p34.at hs (by decide)
            replace hs := p34.st hs
            refine q_take rfl rfl s48 rfl ?_
            refine g_loadB rfl (((p34.ne rfl).trans ((p33.ne rfl).trans (p32.ne rfl))).trans s8) Try.isAgg50 Try.sizeOf50 rfl h_q37 ?_
            intro a35 p35
            have s49 : a35.eval (.tmp 49) = .agg #[.int .i64 a, .slice A36 ((keepR a zs ds x).1.length) c36, .slice B36 ((keepR a zs ds x).2.length) d36] := p35.at hs (by decide)
            replace hs := p35.st hs
            refine q_take rfl rfl ((p35.ne rfl).trans s48) rfl ?_
            refine g_loadB rfl (((p35.ne rfl).trans ((p34.ne rfl).trans ((p33.ne rfl).trans (p32.ne rfl)))).trans s6) Try.isAgg50 Try.sizeOf50 rfl h_q25 ?_
            intro a36 p36
            have s50 : a36.eval (.tmp 50) = .agg #[.int .i64 a, .slice A24 ((keepR a zs ds x).1.length) c24, .slice B24 ((keepR a zs ds x).2.length) d24] := p36.at hs (by decide)
            replace hs := p36.st hs
            refine q_take rfl rfl (((p36.ne rfl).trans (p35.ne rfl)).trans s48) rfl ?_
            refine g_call rfl rfl Try.call43 (arr2 ((p36.ne rfl).trans s49) s50) ?_
            refine (eqRecorder_same _ _ _ _ _ _ _ _ _ _ _ _ _ ((keepR a zs ds x).1) ((keepR a zs ds x).2) _ rfl rfl (by omega) rfl rfl (by omega) (Rd.of_own o_z36) (Rd.of_own o_z24) (Rd.of_own o_y36) (Rd.of_own o_y24)).mono ?_
            rintro e w55 ⟨rfl, hb54⟩
            refine ⟨_, rfl, ?_⟩
            replace h_q2 := keep_below h_q2 hb54
            replace h_q4 := keep_below h_q4 hb54
            replace h_q25 := keep_below h_q25 hb54
            replace h_q31 := keep_below h_q31 hb54
            replace h_q37 := keep_below h_q37 hb54
            replace o_z24 := own_below o_z24 hb54
            replace o_y24 := own_below o_y24 hb54
            replace o_z29 := own_below o_z29 hb54
            replace o_y29 := own_below o_y29 hb54
            replace o_z36 := own_below o_z36 hb54
            replace o_y36 := own_below o_y36 hb54
            replace hB := hB.trans (hb54.mono hB.size)
            clear hb54
            intro a37 p37
            have s51 : a37.eval (.tmp 51) = .bool true := p37.at hs (by decide)
            replace hs := p37.st hs
            refine q_take rfl rfl (((p37.ne rfl).trans ((p36.ne rfl).trans (p35.ne rfl))).trans s48) rfl ?_
            refine g_not rfl s51 ?_
            intro a38 p38
            have s52 : a38.eval (.tmp 52) = .bool false := p38.at hs (by decide)
            replace hs := p38.st hs
            refine q_val rfl rfl ?_
            refine g_pick_f rfl (((p38.ne rfl).trans ((p37.ne rfl).trans ((p36.ne rfl).trans (p35.ne rfl)))).trans s48) s52 ?_
            intro a39 p39
            have s53 : a39.eval (.tmp 53) = .bool false := p39.at hs (by decide)
            replace hs := p39.st hs
            refine wpList_nil ?_
            replace s2 : a39.eval (.tmp 2) = .pointer (some ⟨q2, 0, none⟩) := ((p39.ne rfl).trans ((p38.ne rfl).trans ((p37.ne rfl).trans ((p36.ne rfl).trans ((p35.ne rfl).trans ((p34.ne rfl).trans ((p33.ne rfl).trans (p32.ne rfl)))))))).trans s2
            replace s3 : a39.eval (.tmp 3) = .pointer (some ⟨q4, 0, none⟩) := ((p39.ne rfl).trans ((p38.ne rfl).trans ((p37.ne rfl).trans ((p36.ne rfl).trans ((p35.ne rfl).trans ((p34.ne rfl).trans ((p33.ne rfl).trans (p32.ne rfl)))))))).trans s3
            replace s4 : a39.eval (.tmp 4) = .bool false := ((p39.ne rfl).trans ((p38.ne rfl).trans ((p37.ne rfl).trans ((p36.ne rfl).trans ((p35.ne rfl).trans ((p34.ne rfl).trans ((p33.ne rfl).trans (p32.ne rfl)))))))).trans s4
            replace s6 : a39.eval (.tmp 6) = .pointer (some ⟨q25, 0, none⟩) := ((p39.ne rfl).trans ((p38.ne rfl).trans ((p37.ne rfl).trans ((p36.ne rfl).trans ((p35.ne rfl).trans ((p34.ne rfl).trans ((p33.ne rfl).trans (p32.ne rfl)))))))).trans s6
            replace s8 : a39.eval (.tmp 8) = .pointer (some ⟨q37, 0, none⟩) := ((p39.ne rfl).trans ((p38.ne rfl).trans ((p37.ne rfl).trans ((p36.ne rfl).trans ((p35.ne rfl).trans ((p34.ne rfl).trans ((p33.ne rfl).trans (p32.ne rfl)))))))).trans s8
            refine hK53 _ _ ?_
            clear hK53
            refine c_false s53 ?_
            refine wp_skip ?_
            refine hK52 _ _ ?_
            clear hK52
            refine wp_seq_k fun K56 hK56 => ?_
            refine wp_region_lit ?_
            refine q_val rfl rfl ?_
            refine g_assign rfl rfl ?_
            intro a40 p40
            have s10 : a40.eval (.tmp 10) = .int .i64 1 := p40.at hs (by decide)
            replace hs := p40.st hs
            refine wpList_nil ?_
            replace s2 : a40.eval (.tmp 2) = .pointer (some ⟨q2, 0, none⟩) := (p40.ne rfl).trans s2
            replace s3 : a40.eval (.tmp 3) = .pointer (some ⟨q4, 0, none⟩) := (p40.ne rfl).trans s3
            replace s4 : a40.eval (.tmp 4) = .bool false := (p40.ne rfl).trans s4
            replace s6 : a40.eval (.tmp 6) = .pointer (some ⟨q25, 0, none⟩) := (p40.ne rfl).trans s6
            replace s8 : a40.eval (.tmp 8) = .pointer (some ⟨q37, 0, none⟩) := (p40.ne rfl).trans s8
            refine hK56 _ _ ?_
            clear hK56
            refine wp_seq_k fun K57 hK57 => ?_
            refine wp_region_lit ?_
            refine q_val rfl rfl ?_
            refine g_loadB rfl s8 Try.isAgg50 Try.sizeOf50 rfl h_q37 ?_
            intro a41 p41
            have s54 : a41.eval (.tmp 54) = .agg #[.int .i64 a, .slice A36 ((keepR a zs ds x).1.length) c36, .slice B36 ((keepR a zs ds x).2.length) d36] := p41.at hs (by decide)
            replace hs := p41.st hs
            refine q_val rfl rfl ?_
            refine g_move rfl ((p41.ne rfl).trans s10) ?_
            intro a42 p42
            have s55 : a42.eval (.tmp 55) = .int .i64 1 := p42.at hs (by decide)
            replace hs := p42.st hs
            refine q_val rfl rfl ?_
            refine g_call rfl rfl Try.call47 (arr2 ((p42.ne rfl).trans s54) s55) ?_
            refine (markRecorder_any    _ (by omega) (by omega) (by omega) (by omega) o_z36 o_y36).mono ?_
            rintro e w58_1 ⟨rfl, w58_0, oo58_0, gg58_0, oo58_1, gg58_1⟩
            refine ⟨_, rfl, ?_⟩
            replace h_q2 := keep_grown h_q2 gg58_0 d_z36_q2
            replace h_q4 := keep_grown h_q4 gg58_0 d_z36_q4
            replace h_q25 := keep_grown h_q25 gg58_0 d_z36_q25
            replace h_q31 := keep_grown h_q31 gg58_0 d_z36_q31
            replace h_q37 := keep_grown h_q37 gg58_0 d_z36_q37
            replace o_z24 := own_grown o_z24 gg58_0 m_z24_z36
            replace o_y24 := own_grown o_y24 gg58_0 m_y24_z36
            replace o_z29 := own_grown o_z29 gg58_0 m_z29_z36
            replace o_y29 := own_grown o_y29 gg58_0 m_y29_z36
            replace o_y36 := own_grown o_y36 gg58_0 m_y36_z36
            replace hB := below_grown hB hB.size gg58_0 g_z36
            replace o_z36 := oo58_0
            clear gg58_0
            replace h_q2 := keep_grown h_q2 gg58_1 d_y36_q2
            replace h_q4 := keep_grown h_q4 gg58_1 d_y36_q4
            replace h_q25 := keep_grown h_q25 gg58_1 d_y36_q25
            replace h_q31 := keep_grown h_q31 gg58_1 d_y36_q31
            replace h_q37 := keep_grown h_q37 gg58_1 d_y36_q37
            replace o_z24 := own_grown o_z24 gg58_1 m_z24_y36
            replace o_y24 := own_grown o_y24 gg58_1 m_y24_y36
            replace o_z29 := own_grown o_z29 gg58_1 m_z29_y36
            replace o_y29 := own_grown o_y29 gg58_1 m_y29_y36
            replace o_z36 := own_grown o_z36 gg58_1 m_z36_y36
            replace hB := below_grown hB hB.size gg58_1 g_y36
            replace o_y36 := oo58_1
            clear gg58_1
            intro a43 p43
            have s56 : a43.eval (.tmp 56) = .int .i64 (1 + 4 * (((keepR a zs ds x).1.length : Nat) : Int) + (((keepR a zs ds x).2.length : Nat) : Int)) := p43.at hs (by decide)
            replace hs := p43.st hs
            refine q_val rfl rfl ?_
            refine g_assign rfl s56 ?_
            intro a44 p44
            have s10 : a44.eval (.tmp 10) = .int .i64 (1 + 4 * (((keepR a zs ds x).1.length : Nat) : Int) + (((keepR a zs ds x).2.length : Nat) : Int)) := p44.at hs (by decide)
            replace hs := p44.st hs
            refine wpList_nil ?_
            replace s2 : a44.eval (.tmp 2) = .pointer (some ⟨q2, 0, none⟩) := ((p44.ne rfl).trans ((p43.ne rfl).trans ((p42.ne rfl).trans (p41.ne rfl)))).trans s2
            replace s3 : a44.eval (.tmp 3) = .pointer (some ⟨q4, 0, none⟩) := ((p44.ne rfl).trans ((p43.ne rfl).trans ((p42.ne rfl).trans (p41.ne rfl)))).trans s3
            replace s4 : a44.eval (.tmp 4) = .bool false := ((p44.ne rfl).trans ((p43.ne rfl).trans ((p42.ne rfl).trans (p41.ne rfl)))).trans s4
            replace s6 : a44.eval (.tmp 6) = .pointer (some ⟨q25, 0, none⟩) := ((p44.ne rfl).trans ((p43.ne rfl).trans ((p42.ne rfl).trans (p41.ne rfl)))).trans s6
            replace s8 : a44.eval (.tmp 8) = .pointer (some ⟨q37, 0, none⟩) := ((p44.ne rfl).trans ((p43.ne rfl).trans ((p42.ne rfl).trans (p41.ne rfl)))).trans s8
            refine hK57 _ _ ?_
            clear hK57
            refine wp_seq_k fun K59 hK59 => ?_
            refine wp_region_lit ?_
            refine q_val rfl rfl ?_
            refine g_assign rfl rfl ?_
            intro a45 p45
            have s11 : a45.eval (.tmp 11) = .int .i64 1 := p45.at hs (by decide)
            replace hs := p45.st hs
            refine wpList_nil ?_
            replace s2 : a45.eval (.tmp 2) = .pointer (some ⟨q2, 0, none⟩) := (p45.ne rfl).trans s2
            replace s3 : a45.eval (.tmp 3) = .pointer (some ⟨q4, 0, none⟩) := (p45.ne rfl).trans s3
            replace s4 : a45.eval (.tmp 4) = .bool false := (p45.ne rfl).trans s4
            replace s6 : a45.eval (.tmp 6) = .pointer (some ⟨q25, 0, none⟩) := (p45.ne rfl).trans s6
            replace s8 : a45.eval (.tmp 8) = .pointer (some ⟨q37, 0, none⟩) := (p45.ne rfl).trans s8
            replace s10 : a45.eval (.tmp 10) = .int .i64 (1 + 4 * (((keepR a zs ds x).1.length : Nat) : Int) + (((keepR a zs ds x).2.length : Nat) : Int)) := (p45.ne rfl).trans s10
            refine hK59 _ _ ?_
            clear hK59
            refine wp_seq_k fun K60 hK60 => ?_
            refine wp_region_lit ?_
            refine q_val rfl rfl ?_
            refine g_loadB rfl s8 Try.isAgg50 Try.sizeOf50 rfl h_q37 ?_
            intro a46 p46
            have s57 : a46.eval (.tmp 57) = .agg #[.int .i64 a, .slice A36 ((keepR a zs ds x).1.length) c36, .slice B36 ((keepR a zs ds x).2.length) d36] := p46.at hs (by decide)
            replace hs := p46.st hs
            refine q_val rfl rfl ?_
            refine g_move rfl ((p46.ne rfl).trans s11) ?_
            intro a47 p47
            have s58 : a47.eval (.tmp 58) = .int .i64 1 := p47.at hs (by decide)
            replace hs := p47.st hs
            refine q_val rfl rfl ?_
            refine g_call rfl rfl Try.call49 (arr2 ((p47.ne rfl).trans s57) s58) ?_
            refine (heldRecorder_any _ (by omega) (by omega) (by omega) (by omega) (Rd.of_own o_z36) (Rd.of_own o_y36)).mono ?_
            rintro e w62 ⟨rfl, hb61⟩
            refine ⟨_, rfl, ?_⟩
            replace h_q2 := keep_below h_q2 hb61
            replace h_q4 := keep_below h_q4 hb61
            replace h_q25 := keep_below h_q25 hb61
            replace h_q31 := keep_below h_q31 hb61
            replace h_q37 := keep_below h_q37 hb61
            replace o_z24 := own_below o_z24 hb61
            replace o_y24 := own_below o_y24 hb61
            replace o_z29 := own_below o_z29 hb61
            replace o_y29 := own_below o_y29 hb61
            replace o_z36 := own_below o_z36 hb61
            replace o_y36 := own_below o_y36 hb61
            replace hB := hB.trans (hb61.mono hB.size)
            clear hb61
            intro a48 p48
            have s59 : a48.eval (.tmp 59) = .int .i64 (1 + 4 * (((keepR a zs ds x).1.length : Nat) : Int) + (((keepR a zs ds x).2.length : Nat) : Int)) := p48.at hs (by decide)
            replace hs := p48.st hs
            refine q_val rfl rfl ?_
            refine g_assign rfl s59 ?_
            intro a49 p49
            have s11 : a49.eval (.tmp 11) = .int .i64 (1 + 4 * (((keepR a zs ds x).1.length : Nat) : Int) + (((keepR a zs ds x).2.length : Nat) : Int)) := p49.at hs (by decide)
            replace hs := p49.st hs
            refine wpList_nil ?_
            replace s2 : a49.eval (.tmp 2) = .pointer (some ⟨q2, 0, none⟩) := ((p49.ne rfl).trans ((p48.ne rfl).trans ((p47.ne rfl).trans (p46.ne rfl)))).trans s2
            replace s3 : a49.eval (.tmp 3) = .pointer (some ⟨q4, 0, none⟩) := ((p49.ne rfl).trans ((p48.ne rfl).trans ((p47.ne rfl).trans (p46.ne rfl)))).trans s3
            replace s4 : a49.eval (.tmp 4) = .bool false := ((p49.ne rfl).trans ((p48.ne rfl).trans ((p47.ne rfl).trans (p46.ne rfl)))).trans s4
            replace s6 : a49.eval (.tmp 6) = .pointer (some ⟨q25, 0, none⟩) := ((p49.ne rfl).trans ((p48.ne rfl).trans ((p47.ne rfl).trans (p46.ne rfl)))).trans s6
            replace s8 : a49.eval (.tmp 8) = .pointer (some ⟨q37, 0, none⟩) := ((p49.ne rfl).trans ((p48.ne rfl).trans ((p47.ne rfl).trans (p46.ne rfl)))).trans s8
            replace s10 : a49.eval (.tmp 10) = .int .i64 (1 + 4 * (((keepR a zs ds x).1.length : Nat) : Int) + (((keepR a zs ds x).2.length : Nat) : Int)) := ((p49.ne rfl).trans ((p48.ne rfl).trans ((p47.ne rfl).trans (p46.ne rfl)))).trans s10
            refine hK60 _ _ ?_
            clear hK60
            refine wp_seq_k fun K63 hK63 => ?_
            refine wp_seq_k fun K64 hK64 => ?_
            refine wp_region_lit ?_
            refine q_val rfl rfl ?_
            refine g_move rfl s11 ?_
            intro a50 p50
            have s60 : a50.eval (.tmp 60) = .int .i64 (1 + 4 * (((keepR a zs ds x).1.length : Nat) : Int) + (((keepR a zs ds x).2.length : Nat) : Int)) := p50.at hs (by decide)
            replace hs := p50.st hs
            refine q_val rfl rfl ?_
            refine g_lss rfl s60 rfl ?_
            intro a51 p51
            have s61 : a51.eval (.tmp 61) = .bool false := (p51.at hs (by decide)).trans (congrArg Value.bool (decide_eq_false (by omega)))
            replace hs := p51.st hs
            refine wpList_nil ?_
            replace s2 : a51.eval (.tmp 2) = .pointer (some ⟨q2, 0, none⟩) := ((p51.ne rfl).trans (p50.ne rfl)).trans s2
            replace s3 : a51.eval (.tmp 3) = .pointer (some ⟨q4, 0, none⟩) := ((p51.ne rfl).trans (p50.ne rfl)).trans s3
            replace s4 : a51.eval (.tmp 4) = .bool false := ((p51.ne rfl).trans (p50.ne rfl)).trans s4
            replace s6 : a51.eval (.tmp 6) = .pointer (some ⟨q25, 0, none⟩) := ((p51.ne rfl).trans (p50.ne rfl)).trans s6
            replace s8 : a51.eval (.tmp 8) = .pointer (some ⟨q37, 0, none⟩) := ((p51.ne rfl).trans (p50.ne rfl)).trans s8
            replace s10 : a51.eval (.tmp 10) = .int .i64 (1 + 4 * (((keepR a zs ds x).1.length : Nat) : Int) + (((keepR a zs ds x).2.length : Nat) : Int)) := ((p51.ne rfl).trans (p50.ne rfl)).trans s10
            replace s11 : a51.eval (.tmp 11) = .int .i64 (1 + 4 * (((keepR a zs ds x).1.length : Nat) : Int) + (((keepR a zs ds x).2.length : Nat) : Int)) := ((p51.ne rfl).trans (p50.ne rfl)).trans s11
            refine hK64 _ _ ?_
            clear hK64
            refine c_false s61 ?_
            refine wp_skip ?_
            refine hK63 _ _ ?_
            clear hK63
            refine wp_seq_k fun K65 hK65 => ?_
            refine wp_seq_k fun K66 hK66 => ?_
            refine wp_region_lit ?_
            refine q_val rfl rfl ?_
            refine g_move rfl s11 ?_
            intro a52 p52
            have s62 : a52.eval (.tmp 62) = .int .i64 (1 + 4 * (((keepR a zs ds x).1.length : Nat) : Int) + (((keepR a zs ds x).2.length : Nat) : Int)) := p52.at hs (by decide)
            replace hs := p52.st hs
            refine q_val rfl rfl ?_
            refine g_move rfl ((p52.ne rfl).trans s10) ?_
            intro a53 p53
            have s63 : a53.eval (.tmp 63) = .int .i64 (1 + 4 * (((keepR a zs ds x).1.length : Nat) : Int) + (((keepR a zs ds x).2.length : Nat) : Int)) := p53.at hs (by decide)
            replace hs := p53.st hs
            refine q_val rfl rfl ?_
            refine g_neq rfl ((p53.ne rfl).trans s62) s63 ?_
            intro a54 p54
            have s64 : a54.eval (.tmp 64) = .bool false := (p54.at hs (by decide)).trans (congrArg (fun b => Value.bool (!b)) (decide_eq_true rfl))
            replace hs := p54.st hs
            refine wpList_nil ?_
            replace s2 : a54.eval (.tmp 2) = .pointer (some ⟨q2, 0, none⟩) := ((p54.ne rfl).trans ((p53.ne rfl).trans (p52.ne rfl))).trans s2
            replace s3 : a54.eval (.tmp 3) = .pointer (some ⟨q4, 0, none⟩) := ((p54.ne rfl).trans ((p53.ne rfl).trans (p52.ne rfl))).trans s3
            replace s4 : a54.eval (.tmp 4) = .bool false := ((p54.ne rfl).trans ((p53.ne rfl).trans (p52.ne rfl))).trans s4
            replace s6 : a54.eval (.tmp 6) = .pointer (some ⟨q25, 0, none⟩) := ((p54.ne rfl).trans ((p53.ne rfl).trans (p52.ne rfl))).trans s6
            replace s8 : a54.eval (.tmp 8) = .pointer (some ⟨q37, 0, none⟩) := ((p54.ne rfl).trans ((p53.ne rfl).trans (p52.ne rfl))).trans s8
            replace s10 : a54.eval (.tmp 10) = .int .i64 (1 + 4 * (((keepR a zs ds x).1.length : Nat) : Int) + (((keepR a zs ds x).2.length : Nat) : Int)) := ((p54.ne rfl).trans ((p53.ne rfl).trans (p52.ne rfl))).trans s10
            replace s11 : a54.eval (.tmp 11) = .int .i64 (1 + 4 * (((keepR a zs ds x).1.length : Nat) : Int) + (((keepR a zs ds x).2.length : Nat) : Int)) := ((p54.ne rfl).trans ((p53.ne rfl).trans (p52.ne rfl))).trans s11
            refine hK66 _ _ ?_
            clear hK66
            refine c_false s64 ?_
            refine wp_skip ?_
            refine hK65 _ _ ?_
            clear hK65
            refine wp_seq_k fun K67 hK67 => ?_
            refine wp_drawn (n := 82) [] [6] [] (fun k_ v_ wx => match k_ with | 0 => v_ = .agg #[.int .i64 a, .slice A zs.length cp, .slice B ds.length dp] | 1 => ∃ (g68 : Nat) (i68 : Nat), v_ = .agg #[.int .i64 a, .slice (some ⟨g68, 0, none⟩) zs.length zs.length, .slice (some ⟨i68, 0, none⟩) ds.length ds.length] ∧ ((wx).ownsRow w62.heap.size 26 4 (.slice (some ⟨g68, 0, none⟩) zs.length zs.length) zs.length (zs.flatMap cRecord)) ∧ ((wx).ownsRow w62.heap.size 3 1 (.slice (some ⟨i68, 0, none⟩) ds.length ds.length) ds.length (ds.flatMap cI)) | 2 => v_ = .agg #[.int .i64 x.f0, .int .i64 x.f1, .int .i64 x.f2, .string ⟨(x.f3).toArray⟩] | 3 => v_ = .agg #[.int .i64 x.f0, .int .i64 x.f1, .int .i64 x.f2, .string ⟨(x.f3).toArray⟩] | 4 => ∃ (A70 : Option Addr) (c70 : Nat) (B70 : Option Addr) (d70 : Nat), v_ = .agg #[.int .i64 a, .slice A70 ((keepR a zs ds x).1.length) c70, .slice B70 ((keepR a zs ds x).2.length) d70] ∧ ((wx).ownsRow w62.heap.size 26 4 (.slice A70 ((keepR a zs ds x).1.length) c70) ((keepR a zs ds x).1.length) (((keepR a zs ds x).1).flatMap cRecord)) ∧ ((wx).ownsRow w62.heap.size 3 1 (.slice B70 ((keepR a zs ds x).2.length) d70) ((keepR a zs ds x).2.length) (((keepR a zs ds x).2).flatMap cI)) | 5 => ∃ q71, v_ = .pointer (some ⟨q71, 0, none⟩) ∧ w62.heap.size ≤ q71 ∧ wx.heap[q71]? = some (.cells #[.int .i64 0, .slice none 0 0, .slice none 0 0] 50 (0, 0)) | _ => True) (by kernel_rfl) (by kernel_rfl) (by kernel_rfl) (by kernel_rfl) hs.size ?_ ?_ ?_
            · intro i v wa wb hb hr
              rcases i with _ | _ | _ | _ | _ | _ | _ | i
              · exact hr
              · obtain ⟨g68, i68, hr, o_z68, o_y68⟩ := hr; exact ⟨g68, i68, hr, own_below o_z68 hb, own_below o_y68 hb⟩
              · exact hr
              · exact hr
              · obtain ⟨A70, c70, B70, d70, hr, o_z70, o_y70⟩ := hr; exact ⟨A70, c70, B70, d70, hr, own_below o_z70 hb, own_below o_y70 hb⟩
              · obtain ⟨q71, hr, hg, hh⟩ := hr; exact ⟨q71, hr, hg, keep_below hh hb⟩
              · trivial
              · trivial
            · refine d_step rfl rfl ?_ (d_step rfl rfl ?_ (d_step rfl rfl ?_ (d_step rfl rfl ?_ (d_step rfl rfl ?_ (d_step rfl rfl ?_ (d_chain rfl (d_nil)))))))
              · intro xv_ wx ρ hρ hwx hd K hK
                have e2 : ρ (.tmp 2) = .pointer (some ⟨q2, 0, none⟩) := (hρ.inn 2 rfl).trans s2
                have h_q2 := keep_below h_q2 hwx
                refine g_loadB rfl e2 Try.isAgg61 Try.sizeOf61 rfl h_q2 ?_
                exact hK _ _ (Below.refl _ _) rfl
              · intro xv_ wx ρ hρ hwx hd K hK
                obtain r0 : xv_ 0 = .agg #[.int .i64 a, .slice A zs.length cp, .slice B ds.length dp] := hd 0 rfl
                have e65 : ρ (.tmp 65) = .agg #[.int .i64 a, .slice A zs.length cp, .slice B ds.length dp] := (hρ.out 0 65 rfl (by rw [hs.size]; decide) rfl).trans r0
                refine g_call rfl (hρ.fn _) Try.call42 (arr1 e65) ?_
                refine (toRecorder_any _ _ _ _ _ _ _ zs ds _ rfl hm1 ((hr_z.below hB).below hwx) rfl hm2 ((hr_d.below hB).below hwx)).mono ?_
                rintro e wy ⟨g68, i68, rfl, o_z68, o_y68, _, hb68⟩
                exact ⟨_, rfl, hK _ _ hb68 ⟨g68, i68, rfl, own_base o_z68 hwx.size, own_base o_y68 hwx.size⟩⟩
              · intro xv_ wx ρ hρ hwx hd K hK
                have e3 : ρ (.tmp 3) = .pointer (some ⟨q4, 0, none⟩) := (hρ.inn 3 rfl).trans s3
                have h_q4 := keep_below h_q4 hwx
                refine g_loadB rfl e3 Try.isAgg23 Try.sizeOf23 rfl h_q4 ?_
                exact hK _ _ (Below.refl _ _) rfl
              · intro xv_ wx ρ hρ hwx hd K hK
                obtain r2 : xv_ 2 = .agg #[.int .i64 x.f0, .int .i64 x.f1, .int .i64 x.f2, .string ⟨(x.f3).toArray⟩] := hd 2 rfl
                have e67 : ρ (.tmp 67) = .agg #[.int .i64 x.f0, .int .i64 x.f1, .int .i64 x.f2, .string ⟨(x.f3).toArray⟩] := (hρ.out 2 67 rfl (by rw [hs.size]; decide) rfl).trans r2
                refine g_call rfl (hρ.fn _) Try.call17 (arr1 e67) ?_
                refine (toRecord_any _ _ _ _ _).mono ?_
                rintro e wy ⟨rfl, hb69⟩
                exact ⟨_, rfl, hK _ _ hb69 rfl⟩
              · intro xv_ wx ρ hρ hwx hd K hK
                obtain ⟨g68, i68, r1, o_z68, o_y68⟩ : ∃ (g68 : Nat) (i68 : Nat), xv_ 1 = .agg #[.int .i64 a, .slice (some ⟨g68, 0, none⟩) zs.length zs.length, .slice (some ⟨i68, 0, none⟩) ds.length ds.length] ∧ ((wx).ownsRow w62.heap.size 26 4 (.slice (some ⟨g68, 0, none⟩) zs.length zs.length) zs.length (zs.flatMap cRecord)) ∧ ((wx).ownsRow w62.heap.size 3 1 (.slice (some ⟨i68, 0, none⟩) ds.length ds.length) ds.length (ds.flatMap cI)) := hd 1 rfl
                have e66 : ρ (.tmp 66) = .agg #[.int .i64 a, .slice (some ⟨g68, 0, none⟩) zs.length zs.length, .slice (some ⟨i68, 0, none⟩) ds.length ds.length] := (hρ.out 1 66 rfl (by rw [hs.size]; decide) rfl).trans r1
                obtain r3 : xv_ 3 = .agg #[.int .i64 x.f0, .int .i64 x.f1, .int .i64 x.f2, .string ⟨(x.f3).toArray⟩] := hd 3 rfl
                have e68 : ρ (.tmp 68) = .agg #[.int .i64 x.f0, .int .i64 x.f1, .int .i64 x.f2, .string ⟨(x.f3).toArray⟩] := (hρ.out 3 68 rfl (by rw [hs.size]; decide) rfl).trans r3
                refine g_call rfl (hρ.fn _) Try.call34 (arr2 e66 e68) ?_
                refine (keepRecord_v _ _ _ _ _ _ _ zs ds x _ rfl hm1 (own_cap o_z68).1 hT (Rd.of_own o_z68) (own_nil o_z68) rfl hm2 (own_nil o_y68) (Rd.of_own o_y68) hTx).mono ?_
                rintro e wy ⟨A70, c70, B70, d70, rfl, o_z70, o_y70, hb70⟩
                exact ⟨_, rfl, hK _ _ hb70 ⟨A70, c70, B70, d70, rfl, own_base o_z70 hwx.size, own_base o_y70 hwx.size⟩⟩
              · intro xv_ wx ρ hρ hwx hd K hK
                refine g_alloc rfl Try.zeroValue50 rfl ?_
                intro q w' N
                exact hK _ _ N.below ⟨q, rfl, Nat.le_trans hwx.size N.lo, N.here⟩
            · intro x0_ w72 hb_w72 hr0
              obtain r0 : x0_ 0 = .agg #[.int .i64 a, .slice A zs.length cp, .slice B ds.length dp] := hr0 0 (by decide) rfl rfl
              obtain ⟨g68, i68, r1, o_z68, o_y68⟩ : ∃ (g68 : Nat) (i68 : Nat), x0_ 1 = .agg #[.int .i64 a, .slice (some ⟨g68, 0, none⟩) zs.length zs.length, .slice (some ⟨i68, 0, none⟩) ds.length ds.length] ∧ ((w72).ownsRow w62.heap.size 26 4 (.slice (some ⟨g68, 0, none⟩) zs.length zs.length) zs.length (zs.flatMap cRecord)) ∧ ((w72).ownsRow w62.heap.size 3 1 (.slice (some ⟨i68, 0, none⟩) ds.length ds.length) ds.length (ds.flatMap cI)) := hr0 1 (by decide) rfl rfl
              obtain r2 : x0_ 2 = .agg #[.int .i64 x.f0, .int .i64 x.f1, .int .i64 x.f2, .string ⟨(x.f3).toArray⟩] := hr0 2 (by decide) rfl rfl
              obtain r3 : x0_ 3 = .agg #[.int .i64 x.f0, .int .i64 x.f1, .int .i64 x.f2, .string ⟨(x.f3).toArray⟩] := hr0 3 (by decide) rfl rfl
              obtain ⟨A70, c70, B70, d70, r4, o_z70, o_y70⟩ : ∃ (A70 : Option Addr) (c70 : Nat) (B70 : Option Addr) (d70 : Nat), x0_ 4 = .agg #[.int .i64 a, .slice A70 ((keepR a zs ds x).1.length) c70, .slice B70 ((keepR a zs ds x).2.length) d70] ∧ ((w72).ownsRow w62.heap.size 26 4 (.slice A70 ((keepR a zs ds x).1.length) c70) ((keepR a zs ds x).1.length) (((keepR a zs ds x).1).flatMap cRecord)) ∧ ((w72).ownsRow w62.heap.size 3 1 (.slice B70 ((keepR a zs ds x).2.length) d70) ((keepR a zs ds x).2.length) (((keepR a zs ds x).2).flatMap cI)) := hr0 4 (by decide) rfl rfl
              obtain ⟨q71, r5, g0_q71, h_q71⟩ : ∃ q71, x0_ 5 = .pointer (some ⟨q71, 0, none⟩) ∧ w62.heap.size ≤ q71 ∧ w72.heap[q71]? = some (.cells #[.int .i64 0, .slice none 0 0, .slice none 0 0] 50 (0, 0)) := hr0 5 (by decide) rfl rfl
              clear hr0
              have m_z70_y70 := own_ne_type o_z70 o_y70 (by decide)
              have m_y70_z70 := ne_row_symm m_z70_y70
              have d_z70_q2 := own_ne_box o_z70 (lt_of_block h_q2)
              have d_z70_q4 := own_ne_box o_z70 (lt_of_block h_q4)
              have d_z70_q25 := own_ne_box o_z70 (lt_of_block h_q25)
              have d_z70_q31 := own_ne_box o_z70 (lt_of_block h_q31)
              have d_z70_q37 := own_ne_box o_z70 (lt_of_block h_q37)
              have m_z24_z70 := own_ne_row o_z24 o_z70 (Nat.le_refl _)
              have m_z70_z24 := ne_row_symm m_z24_z70
              have m_y24_z70 := own_ne_row o_y24 o_z70 (Nat.le_refl _)
              have m_z70_y24 := ne_row_symm m_y24_z70
              have m_z29_z70 := own_ne_row o_z29 o_z70 (Nat.le_refl _)
              have m_z70_z29 := ne_row_symm m_z29_z70
              have m_y29_z70 := own_ne_row o_y29 o_z70 (Nat.le_refl _)
              have m_z70_y29 := ne_row_symm m_y29_z70
              have m_z36_z70 := own_ne_row o_z36 o_z70 (Nat.le_refl _)
              have m_z70_z36 := ne_row_symm m_z36_z70
              have m_y36_z70 := own_ne_row o_y36 o_z70 (Nat.le_refl _)
              have m_z70_y36 := ne_row_symm m_y36_z70
              have g_z70 : ∀ b, (A70 : Option Addr).map (·.block) = some b → w.heap.size ≤ b := fun b h => Nat.le_trans hB.size (own_row o_z70 b h).1
              replace o_z70 := own_base (base := w.heap.size) o_z70 hB.size
              have d_y70_q2 := own_ne_box o_y70 (lt_of_block h_q2)
              have d_y70_q4 := own_ne_box o_y70 (lt_of_block h_q4)
              have d_y70_q25 := own_ne_box o_y70 (lt_of_block h_q25)
              have d_y70_q31 := own_ne_box o_y70 (lt_of_block h_q31)
              have d_y70_q37 := own_ne_box o_y70 (lt_of_block h_q37)
              have m_z24_y70 := own_ne_row o_z24 o_y70 (Nat.le_refl _)
              have m_y70_z24 := ne_row_symm m_z24_y70
              have m_y24_y70 := own_ne_row o_y24 o_y70 (Nat.le_refl _)
              have m_y70_y24 := ne_row_symm m_y24_y70
              have m_z29_y70 := own_ne_row o_z29 o_y70 (Nat.le_refl _)
              have m_y70_z29 := ne_row_symm m_z29_y70
              have m_y29_y70 := own_ne_row o_y29 o_y70 (Nat.le_refl _)
              have m_y70_y29 := ne_row_symm m_y29_y70
              have m_z36_y70 := own_ne_row o_z36 o_y70 (Nat.le_refl _)
              have m_y70_z36 := ne_row_symm m_z36_y70
              have m_y36_y70 := own_ne_row o_y36 o_y70 (Nat.le_refl _)
              have m_y70_y36 := ne_row_symm m_y36_y70
              have g_y70 : ∀ b, (B70 : Option Addr).map (·.block) = some b → w.heap.size ≤ b := fun b h => Nat.le_trans hB.size (own_row o_y70 b h).1
              replace o_y70 := own_base (base := w.heap.size) o_y70 hB.size
              have n_q2_q71 : NeB q2 q71 := ⟨fun e => by have := lt_of_block h_q2; omega⟩
              have n_q71_q2 := n_q2_q71.symm
              have n_q4_q71 : NeB q4 q71 := ⟨fun e => by have := lt_of_block h_q4; omega⟩
              have n_q71_q4 := n_q4_q71.symm
              have n_q25_q71 : NeB q25 q71 := ⟨fun e => by have := lt_of_block h_q25; omega⟩
              have n_q71_q25 := n_q25_q71.symm
              have n_q31_q71 : NeB q31 q71 := ⟨fun e => by have := lt_of_block h_q31; omega⟩
              have n_q71_q31 := n_q31_q71.symm
              have n_q37_q71 : NeB q37 q71 := ⟨fun e => by have := lt_of_block h_q37; omega⟩
              have n_q71_q37 := n_q37_q71.symm
              have d_z24_q71 := own_ne o_z24 (.inr g0_q71)
              have d_y24_q71 := own_ne o_y24 (.inr g0_q71)
              have d_z29_q71 := own_ne o_z29 (.inr g0_q71)
              have d_y29_q71 := own_ne o_y29 (.inr g0_q71)
              have d_z36_q71 := own_ne o_z36 (.inr g0_q71)
              have d_y36_q71 := own_ne o_y36 (.inr g0_q71)
              have g_q71 : GeB w.heap.size q71 := ⟨Nat.le_trans hB.size g0_q71⟩
              clear g0_q71
              have d_z70_q71 := own_ne_cells o_z70 h_q71 (by decide)
              have d_y70_q71 := own_ne_cells o_y70 h_q71 (by decide)
              replace h_q2 := keep_below h_q2 hb_w72
              replace h_q4 := keep_below h_q4 hb_w72
              replace h_q25 := keep_below h_q25 hb_w72
              replace h_q31 := keep_below h_q31 hb_w72
              replace h_q37 := keep_below h_q37 hb_w72
              replace o_z24 := own_below o_z24 hb_w72
              replace o_y24 := own_below o_y24 hb_w72
              replace o_z29 := own_below o_z29 hb_w72
              replace o_y29 := own_below o_y29 hb_w72
              replace o_z36 := own_below o_z36 hb_w72
              replace o_y36 := own_below o_y36 hb_w72
              replace hB := hB.trans (hb_w72.mono hB.size)
              clear hb_w72
              intro op_ ho_ xv_ ρ hρ qx_ ql_ qk_
              obtain rfl := Option.some.inj ho_
              clear ho_
              have e12 : ρ (.tmp 12) = .pointer (some ⟨q71, 0, none⟩) := (hρ.out 5 12 rfl (by rw [hs.size]; decide) rfl).trans ((qx_ 5 (by decide) rfl rfl).trans r5)
              have e69 : ρ (.tmp 69) = .agg #[.int .i64 a, .slice A70 ((keepR a zs ds x).1.length) c70, .slice B70 ((keepR a zs ds x).2.length) d70] := (hρ.out 4 69 rfl (by rw [hs.size]; decide) rfl).trans ((qx_ 4 (by decide) rfl rfl).trans r4)
              refine g_storeB rfl e12 e69 Try.sizeOf50 rfl rfl h_q71 rfl ?_
              intro w73 W_w73
              replace h_q2 := keep_wrote h_q2 W_w73 n_q71_q2
              replace h_q4 := keep_wrote h_q4 W_w73 n_q71_q4
              replace h_q25 := keep_wrote h_q25 W_w73 n_q71_q25
              replace h_q31 := keep_wrote h_q31 W_w73 n_q71_q31
              replace h_q37 := keep_wrote h_q37 W_w73 n_q71_q37
              replace h_q71 := W_w73.here
              replace o_z24 := own_wrote o_z24 W_w73 d_z24_q71
              replace o_y24 := own_wrote o_y24 W_w73 d_y24_q71
              replace o_z29 := own_wrote o_z29 W_w73 d_z29_q71
              replace o_y29 := own_wrote o_y29 W_w73 d_y29_q71
              replace o_z36 := own_wrote o_z36 W_w73 d_z36_q71
              replace o_y36 := own_wrote o_y36 W_w73 d_y36_q71
              replace o_z70 := own_wrote o_z70 W_w73 d_z70_q71
              replace o_y70 := own_wrote o_y70 W_w73 d_y70_q71
              replace hB := below_wrote hB hB.size W_w73 g_q71.le
              clear W_w73
              clear e12 e69
              clear hρ qx_ ql_ qk_
              intro xv_ a55 hρ hsz hdf qx_ ql_ qk_ qlk_
              replace s4 : a55.eval (.tmp 4) = .bool false := (hρ.inn 4 rfl).trans s4
              replace s6 : a55.eval (.tmp 6) = .pointer (some ⟨q25, 0, none⟩) := (hρ.inn 6 rfl).trans s6
              replace s8 : a55.eval (.tmp 8) = .pointer (some ⟨q37, 0, none⟩) := (hρ.inn 8 rfl).trans s8
              replace s10 : a55.eval (.tmp 10) = .int .i64 (1 + 4 * (((keepR a zs ds x).1.length : Nat) : Int) + (((keepR a zs ds x).2.length : Nat) : Int)) := (hρ.inn 10 rfl).trans s10
              replace s11 : a55.eval (.tmp 11) = .int .i64 (1 + 4 * (((keepR a zs ds x).1.length : Nat) : Int) + (((keepR a zs ds x).2.length : Nat) : Int)) := (hρ.inn 11 rfl).trans s11
              have s12 : a55.eval (.tmp 12) = .pointer (some ⟨q71, 0, none⟩) := (hρ.out 5 12 rfl (by rw [hs.size]; decide)).trans ((qx_ 5 (by decide) rfl rfl).trans r5)
              replace hs : St 82 a55 := ⟨hsz.trans hs.size, hdf.trans hs.nodef⟩
              clear hρ hsz hdf qx_ ql_ qk_ qlk_
              refine hK67 _ _ ?_
              clear hK67
              refine wp_seq_k fun K74 hK74 => ?_
              refine wp_seq_k fun K75 hK75 => ?_
              refine wp_region_lit ?_
              refine q_val rfl rfl ?_
              refine g_loadB rfl s12 Try.isAgg50 Try.sizeOf50 rfl h_q71 ?_
              intro a56 p56
              have s70 : a56.eval (.tmp 70) = .agg #[.int .i64 a, .slice A70 ((keepR a zs ds x).1.length) c70, .slice B70 ((keepR a zs ds x).2.length) d70] := p56.at hs (by decide)
              replace hs := p56.st hs
              refine q_val rfl rfl ?_
              refine g_loadB rfl ((p56.ne rfl).trans s6) Try.isAgg50 Try.sizeOf50 rfl h_q25 ?_
              intro a57 p57
              have s71 : a57.eval (.tmp 71) = .agg #[.int .i64 a, .slice A24 ((keepR a zs ds x).1.length) c24, .slice B24 ((keepR a zs ds x).2.length) d24] := p57.at hs (by decide)
              replace hs := p57.st hs
              refine q_val rfl rfl ?_
              refine g_call rfl rfl Try.call43 (arr2 ((p57.ne rfl).trans s70) s71) ?_
              refine (eqRecorder_same _ _ _ _ _ _ _ _ _ _ _ _ _ ((keepR a zs ds x).1) ((keepR a zs ds x).2) _ rfl rfl (by omega) rfl rfl (by omega) (Rd.of_own o_z70) (Rd.of_own o_z24) (Rd.of_own o_y70) (Rd.of_own o_y24)).mono ?_
              rintro e w77 ⟨rfl, hb76⟩
              refine ⟨_, rfl, ?_⟩
              replace h_q2 := keep_below h_q2 hb76
              replace h_q4 := keep_below h_q4 hb76
              replace h_q25 := keep_below h_q25 hb76
              replace h_q31 := keep_below h_q31 hb76
              replace h_q37 := keep_below h_q37 hb76
              replace h_q71 := keep_below h_q71 hb76
              replace o_z24 := own_below o_z24 hb76
              replace o_y24 := own_below o_y24 hb76
              replace o_z29 := own_below o_z29 hb76
              replace o_y29 := own_below o_y29 hb76
              replace o_z36 := own_below o_z36 hb76
              replace o_y36 := own_below o_y36 hb76
              replace o_z70 := own_below o_z70 hb76
              replace o_y70 := own_below o_y70 hb76
              replace hB := hB.trans (hb76.mono hB.size)
              clear hb76
              intro a58 p58
              have s72 : a58.eval (.tmp 72) = .bool true := p58.at hs (by decide)
              replace hs := p58.st hs
              refine q_val rfl rfl ?_
              refine g_not rfl s72 ?_
              intro a59 p59
              have s73 : a59.eval (.tmp 73) = .bool false := p59.at hs (by decide)
              replace hs := p59.st hs
              refine wpList_nil ?_
              replace s4 : a59.eval (.tmp 4) = .bool false := ((p59.ne rfl).trans ((p58.ne rfl).trans ((p57.ne rfl).trans (p56.ne rfl)))).trans s4
              replace s8 : a59.eval (.tmp 8) = .pointer (some ⟨q37, 0, none⟩) := ((p59.ne rfl).trans ((p58.ne rfl).trans ((p57.ne rfl).trans (p56.ne rfl)))).trans s8
              replace s10 : a59.eval (.tmp 10) = .int .i64 (1 + 4 * (((keepR a zs ds x).1.length : Nat) : Int) + (((keepR a zs ds x).2.length : Nat) : Int)) := ((p59.ne rfl).trans ((p58.ne rfl).trans ((p57.ne rfl).trans (p56.ne rfl)))).trans s10
              replace s11 : a59.eval (.tmp 11) = .int .i64 (1 + 4 * (((keepR a zs ds x).1.length : Nat) : Int) + (((keepR a zs ds x).2.length : Nat) : Int)) := ((p59.ne rfl).trans ((p58.ne rfl).trans ((p57.ne rfl).trans (p56.ne rfl)))).trans s11
              refine hK75 _ _ ?_
              clear hK75
              refine c_false s73 ?_
              refine wp_skip ?_
              refine hK74 _ _ ?_
              clear hK74
              refine wp_seq_k fun K78 hK78 => ?_
              refine wp_region_lit ?_
              refine q_val rfl rfl ?_
              refine g_assign rfl rfl ?_
              intro a60 p60
              have s11 : a60.eval (.tmp 11) = .int .i64 1 := p60.at hs (by decide)
              replace hs := p60.st hs
              refine wpList_nil ?_
              replace s4 : a60.eval (.tmp 4) = .bool false := (p60.ne rfl).trans s4
              replace s8 : a60.eval (.tmp 8) = .pointer (some ⟨q37, 0, none⟩) := (p60.ne rfl).trans s8
              replace s10 : a60.eval (.tmp 10) = .int .i64 (1 + 4 * (((keepR a zs ds x).1.length : Nat) : Int) + (((keepR a zs ds x).2.length : Nat) : Int)) := (p60.ne rfl).trans s10
              refine hK78 _ _ ?_
              clear hK78
              refine wp_seq_k fun K79 hK79 => ?_
              refine wp_region_lit ?_
              refine q_val rfl rfl ?_
              refine g_loadB rfl s8 Try.isAgg50 Try.sizeOf50 rfl h_q37 ?_
              intro a61 p61
              have s74 : a61.eval (.tmp 74) = .agg #[.int .i64 a, .slice A36 ((keepR a zs ds x).1.length) c36, .slice B36 ((keepR a zs ds x).2.length) d36] := p61.at hs (by decide)
              replace hs := p61.st hs
              refine q_val rfl rfl ?_
              refine g_move rfl ((p61.ne rfl).trans s11) ?_
              intro a62 p62
              have s75 : a62.eval (.tmp 75) = .int .i64 1 := p62.at hs (by decide)
              replace hs := p62.st hs
              refine q_val rfl rfl ?_
              refine g_call rfl rfl Try.call49 (arr2 ((p62.ne rfl).trans s74) s75) ?_
              refine (heldRecorder_any _ (by omega) (by omega) (by omega) (by omega) (Rd.of_own o_z36) (Rd.of_own o_y36)).mono ?_
              rintro e w81 ⟨rfl, hb80⟩
              refine ⟨_, rfl, ?_⟩
              replace h_q2 := keep_below h_q2 hb80
              replace h_q4 := keep_below h_q4 hb80
              replace h_q25 := keep_below h_q25 hb80
              replace h_q31 := keep_below h_q31 hb80
              replace h_q37 := keep_below h_q37 hb80
              replace h_q71 := keep_below h_q71 hb80
              replace o_z24 := own_below o_z24 hb80
              replace o_y24 := own_below o_y24 hb80
              replace o_z29 := own_below o_z29 hb80
              replace o_y29 := own_below o_y29 hb80
              replace o_z36 := own_below o_z36 hb80
              replace o_y36 := own_below o_y36 hb80
              replace o_z70 := own_below o_z70 hb80
              replace o_y70 := own_below o_y70 hb80
              replace hB := hB.trans (hb80.mono hB.size)
              clear hb80
              intro a63 p63
              have s76 : a63.eval (.tmp 76) = .int .i64 (1 + 4 * (((keepR a zs ds x).1.length : Nat) : Int) + (((keepR a zs ds x).2.length : Nat) : Int)) := p63.at hs (by decide)
              replace hs := p63.st hs
              refine q_val rfl rfl ?_
              refine g_assign rfl s76 ?_
              intro a64 p64
              have s11 : a64.eval (.tmp 11) = .int .i64 (1 + 4 * (((keepR a zs ds x).1.length : Nat) : Int) + (((keepR a zs ds x).2.length : Nat) : Int)) := p64.at hs (by decide)
              replace hs := p64.st hs
              refine wpList_nil ?_
              replace s4 : a64.eval (.tmp 4) = .bool false := ((p64.ne rfl).trans ((p63.ne rfl).trans ((p62.ne rfl).trans (p61.ne rfl)))).trans s4
              replace s10 : a64.eval (.tmp 10) = .int .i64 (1 + 4 * (((keepR a zs ds x).1.length : Nat) : Int) + (((keepR a zs ds x).2.length : Nat) : Int)) := ((p64.ne rfl).trans ((p63.ne rfl).trans ((p62.ne rfl).trans (p61.ne rfl)))).trans s10
              refine hK79 _ _ ?_
              clear hK79
              refine wp_seq_k fun K82 hK82 => ?_
              refine wp_seq_k fun K83 hK83 => ?_
              refine wp_region_lit ?_
              refine q_val rfl rfl ?_
              refine g_move rfl s11 ?_
              intro a65 p65
              have s77 : a65.eval (.tmp 77) = .int .i64 (1 + 4 * (((keepR a zs ds x).1.length : Nat) : Int) + (((keepR a zs ds x).2.length : Nat) : Int)) := p65.at hs (by decide)
              replace hs := p65.st hs
              refine q_val rfl rfl ?_
              refine g_lss rfl s77 rfl ?_
              intro a66 p66
              have s78 : a66.eval (.tmp 78) = .bool false := (p66.at hs (by decide)).trans (congrArg Value.bool (decide_eq_false (by omega)))
              replace hs := p66.st hs
              refine wpList_nil ?_
              replace s4 : a66.eval (.tmp 4) = .bool false := ((p66.ne rfl).trans (p65.ne rfl)).trans s4
              replace s10 : a66.eval (.tmp 10) = .int .i64 (1 + 4 * (((keepR a zs ds x).1.length : Nat) : Int) + (((keepR a zs ds x).2.length : Nat) : Int)) := ((p66.ne rfl).trans (p65.ne rfl)).trans s10
              replace s11 : a66.eval (.tmp 11) = .int .i64 (1 + 4 * (((keepR a zs ds x).1.length : Nat) : Int) + (((keepR a zs ds x).2.length : Nat) : Int)) := ((p66.ne rfl).trans (p65.ne rfl)).trans s11
              refine hK83 _ _ ?_
              clear hK83
              refine c_false s78 ?_
              refine wp_skip ?_
              refine hK82 _ _ ?_
              clear hK82
              refine wp_seq_k fun K84 hK84 => ?_
              refine wp_seq_k fun K85 hK85 => ?_
              refine wp_region_lit ?_
              refine q_val rfl rfl ?_
              refine g_move rfl s11 ?_
              intro a67 p67
              have s79 : a67.eval (.tmp 79) = .int .i64 (1 + 4 * (((keepR a zs ds x).1.length : Nat) : Int) + (((keepR a zs ds x).2.length : Nat) : Int)) := p67.at hs (by decide)
              replace hs := p67.st hs
              refine q_val rfl rfl ?_
              refine g_move rfl ((p67.ne rfl).trans s10) ?_
              intro a68 p68
              have s80 : a68.eval (.tmp 80) = .int .i64 (1 + 4 * (((keepR a zs ds x).1.length : Nat) : Int) + (((keepR a zs ds x).2.length : Nat) : Int)) := p68.at hs (by decide)
              replace hs := p68.st hs
              refine q_val rfl rfl ?_
              refine g_neq rfl ((p68.ne rfl).trans s79) s80 ?_
              intro a69 p69
              have s81 : a69.eval (.tmp 81) = .bool false := (p69.at hs (by decide)).trans (congrArg (fun b => Value.bool (!b)) (decide_eq_true rfl))
              replace hs := p69.st hs
              refine wpList_nil ?_
              replace s4 : a69.eval (.tmp 4) = .bool false := ((p69.ne rfl).trans ((p68.ne rfl).trans (p67.ne rfl))).trans s4
              refine hK85 _ _ ?_
              clear hK85
              refine c_false s81 ?_
              refine wp_skip ?_
              refine hK84 _ _ ?_
              clear hK84
              refine wp_seq_k fun K86 hK86 => ?_
              refine wp_region_lit ?_
              refine q_val rfl rfl ?_
              refine g_assign rfl rfl ?_
              intro a70 p70
              have s4 : a70.eval (.tmp 4) = .bool true := p70.at hs (by decide)
              replace hs := p70.st hs
              refine wpList_nil ?_
              refine hK86 _ _ ?_
              clear hK86
              refine wp_ret ?_
              try dsimp only [Exit.then, Exit.inBlock]
              refine ret1 hs Try.results14 (res_tmp s4) ?_
              exact ⟨rfl, hB⟩
theorem fnExactKeepRecord_walk {w : World} (a : Int) (A : Option Addr) (n cp : Nat) (zs : List ERecord) (B : Option Addr) (m dp : Nat) (ds : List Int) (ha : I64 a) (hn : zs.length = n) (hnc_z : n ≤ cp) (hcm : cp ≤ maxLen) (hr_z : Rd w 4 A n (zs.flatMap cRecord)) (hwf : ∀ r ∈ zs, wfRecord r) (hm : ds.length = m) (hnc_d : m ≤ dp) (hdm : dp ≤ maxLen) (hr_d : Rd w 1 B m (ds.flatMap cI)) (hwd : ∀ r ∈ ds, I64 r) (r0 r1 r2 : Int) (r3 : List UInt8) (_ : I64 r0) (_ : I64 r1) (_ : I64 r2) (hTx : Txt r3) :
    Calls Try.prog 14 #[.agg #[.int .i64 a, .slice A n cp, .slice B m dp], .agg #[.int .i64 r0, .int .i64 r1, .int .i64 r2, .string ⟨r3.toArray⟩]] w fun e w' => e = .returned (.bool true) ∧ Below w.heap.size w w' :=
  fnExactKeepRecord_walkx a A n cp zs B m dp ds ha hn hnc_z hcm hr_z hwf hm hnc_d hdm hr_d hwd ⟨r0, r1, r2, r3⟩ hTx

/-! ### The row's step, written by a program of ours (frame.py) -/
namespace fnExactKeepRecordDone
open Go.ChangeShapes Go.WideShapes Go.ChangeAt
open Go.ChangeMaps (open_string)
theorem own : ownKnob Try.prog.godebug = none := by kernel_rfl
theorem laidOut : laidOutB Try.prog = true := by kernel_rfl
set_option maxRecDepth 100000 in
theorem lifted (os : Os) (started : os.Started) (H : Type) (enc : TypeId × Value → H) :
    ReturnsInHanded {} Try.checked os 14 .any (Rows.fnExactKeepRecordSpec.pre6 enc Try.prog Try.f14 Rows.fnExactKeepRecordRow.domain false) (Rows.fnExactKeepRecordSpec.post enc Try.prog Try.f14 false true false false) := by
  refine returnsInHanded_of_change (C := Try.checked) own started (by kernel_rfl) Try.func14
    (ChangeSpec.witness6 (enc := enc) (C := Try.checked) false ⟨#[], #[.agg #[.int .i64 0, .slice none 0 0, .slice none 0 0], .agg #[.int .i64 0, .int .i64 0, .int .i64 0, .string .empty]], []⟩ 8 (by kernel_rfl) (by kernel_rfl) (by kernel_rfl) (by kernel_rfl)) ?_
  intro W base args ds gs before hval0 hW hcnd _
  have hval : ∀ (j : Nat) t v, Try.f14.params[j]? = some t → args[j]? = some v → Value.okWide Try.prog W .any base t v := hval0
  have hW' := hW
  obtain ⟨p, q, hA0, hV, rfl, hfz, hnd⟩ := hW
  have hA : DataW.TrodAll enc Try.prog W 0 (fun _ => true) true Try.f14.params.toList args.toList ds p := hA0
  rw [Try.params14] at hA hval
  obtain ⟨v0, vs0, d0, ds0, p0, q0, hargs, rfl, rfl, h0, r0⟩ := trodAll_cons hA
  obtain ⟨v1, vs1, d1, ds1, p1, q1, rfl, rfl, rfl, h1, r1⟩ := trodAll_cons r0
  obtain ⟨rfl, rfl, rfl⟩ := trodAll_nil r1
  obtain rfl : args = #[v0, v1] := by cases args; simp_all
  obtain ⟨rfl, rfl⟩ := trodVars_none hV
  have k0 := h0
  have lt0 : ∀ x ∈ p0, x.block < W.heap.size := by obtain ⟨m, hm⟩ := k0; exact DataW.trod_lt m _ _ _ hm
  have k1 := h1
  have lt1 : ∀ x ∈ p1, x.block < W.heap.size := by obtain ⟨m, hm⟩ := k1; exact DataW.trod_lt m _ _ _ hm
  obtain ⟨cs0, rfl, _⟩ := okWide_struct Try.underlying61 (hval 0 61 v0 rfl rfl)
  obtain ⟨fuel0, hf0⟩ := h0
  obtain ⟨x0a, A0, n0, c0, rs0, B0, m0, e0, ds0, hcs0, hxa0, ⟨hlen0, hnc0, hcm0, hrd0, hwf0⟩, ⟨hlenb0, hncb0, hcmb0, hrdb0, hwfb0⟩⟩ := open_Recorder hf0
  obtain ⟨cs0⟩ := cs0
  simp only [Value.cells] at hcs0
  subst hcs0
  obtain ⟨cs1, rfl, _⟩ := okWide_struct Try.underlying23 (hval 1 23 v1 rfl rfl)
  obtain ⟨fuel1, hf1⟩ := h1
  obtain ⟨x1a, x1b, x1c, x1d, hcs1, hx1a, hx1b, hx1c, hx1d⟩ := open_Record hf1
  obtain ⟨cs1⟩ := cs1
  simp only [Value.cells] at hcs1
  subst hcs1
  clear hA0 hval0
  refine (fnExactKeepRecord_walk (w := W) x0a A0 n0 c0 rs0 B0 m0 e0 ds0 hxa0 hlen0 hnc0 hcm0 hrd0 hwf0 hlenb0 hncb0 hcmb0 hrdb0 hwfb0 x1a x1b x1c x1d hx1a hx1b hx1c hx1d).mono fun e W' ⟨he, bel⟩ => ?_
  subst he
  exact ⟨_, rfl, _, _, _, [], _, [], hW', trodAll_mk1 (shut_bool Try.underlying4 _), (trodAll_cons_mk (Below.trod laidOut (by kernel_rfl) (of_decide_eq_true (by kernel_rfl)) k0 bel lt0) (trodAll_cons_mk (Below.trod laidOut (by kernel_rfl) (of_decide_eq_true (by kernel_rfl)) k1 bel lt1) trodAll_mk0)), rfl, bel.frame _, fun h => by cases h⟩
theorem proved : Rows.FnExactKeepRecordSaid :=
  OpenClaim.holds_of_wide 14 Try.f14 rfl rfl rfl rfl rfl rfl rfl ⟨rfl, rfl, rfl, rfl, rfl⟩ rfl rfl rfl rfl rfl (by kernel_rfl) Try.func14 (by kernel_rfl)
    (of_decide_eq_true (by kernel_rfl)) (by unfold Func.isWrapper; first | (rw [if_pos (by decide +kernel)]; kernel_rfl) | (rw [if_neg (by decide +kernel)]; exact ⟨rfl, rfl⟩))
    (fun os started H enc _ => lifted os started H enc)
end fnExactKeepRecordDone
end Go.Proofs.Ytnjopeonmenopaa
