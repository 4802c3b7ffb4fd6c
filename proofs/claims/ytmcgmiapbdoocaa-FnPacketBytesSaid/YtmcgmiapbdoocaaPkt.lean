/- Contracts: packets that are valid, and their bytes, in the program and in the reference. No condition. -/
import Derived.Test.YtmcgmiapbdoocaaBase
import Derived.Test.YtmcgmiapbdoocaaFlowStr
namespace Go.Proofs.Ytmcgmiapbdoocaa
open Go.RowKit

structure EPacket where
  f0 : Int
  f1 : Int
  f2 : List UInt8
instance : Inhabited EPacket := ⟨⟨0, 0, []⟩⟩
def cPacket (r : EPacket) : List Value := [.int .i64 r.f0, .int .i64 r.f1, .string ⟨r.f2.toArray⟩]
def pkOk (x : EPacket) : Bool := inB x.f0 0 15 && (inB x.f1 0 65535 && decide (((x.f2.length : Nat) : Int) ≤ 40))
theorem pkOk_parts {x : EPacket} (h : pkOk x = true) : (0 ≤ x.f0 ∧ x.f0 ≤ 15) ∧ (0 ≤ x.f1 ∧ x.f1 ≤ 65535) ∧ x.f2.length ≤ 40 := by
  unfold pkOk at h
  simp only [Bool.and_eq_true, decide_eq_true_eq] at h
  exact ⟨inB_true h.1, inB_true h.2.1, by omega⟩
def pkB (x : EPacket) : List UInt8 := ((pw1 x.f0 ++ pw2 x.f1) ++ pw1 ((x.f2.length : Nat) : Int)) ++ x.f2
def pkEnc (x : EPacket) : List UInt8 := if pkOk x then pkB x else []
theorem pkB_len (x : EPacket) : (pkB x).length = x.f2.length + 4 := by simp [pkB, pw1, pw2] <;> omega
theorem pkEnc_len (x : EPacket) : (pkEnc x).length ≤ 44 := by
  unfold pkEnc
  split
  · rename_i h
    have := (pkOk_parts h).2.2
    rw [pkB_len]
    omega
  · simp
set_option maxRecDepth 100000 in
theorem packetOk_any {x : EPacket} (w : World) (hx : Txt x.f2) :
    Calls Try.prog 25 #[.agg #[.int .i64 x.f0, .int .i64 x.f1, .string ⟨(x.f2).toArray⟩]] w fun e w' => e = .returned (.bool (pkOk x)) ∧ Below w.heap.size w w' := by
  unfold Txt at hx
  refine enter 17 Try.func25 rfl rfl (Nat.le_of_ble_eq_true rfl) ?_
  intro a0 hs hargs
  have s0 : a0.eval (.tmp 0) = .agg #[.int .i64 x.f0, .int .i64 x.f1, .string ⟨(x.f2).toArray⟩] := hargs 0 _ rfl
  clear hargs
  have hB : Below w.heap.size w w := Below.refl _ _
  refine wp_seq_k fun K1 hK1 => ?_
  refine wp_region_lit ?_
  refine q_val rfl rfl ?_
  refine g_box rfl s0 rfl ?_
  intro q2 w3 N_q2
  have g_q2 : GeB w.heap.size q2 := ⟨Nat.le_trans hB.size N_q2.lo⟩
  replace hB := below_new hB hB.size N_q2
  have h_q2 := N_q2.here
  clear N_q2
  intro a1 p1
  have s1 : a1.eval (.tmp 1) = .pointer (some ⟨q2, 0, none⟩) := p1.at hs (by decide)
  replace hs := p1.st hs
  refine q_val rfl rfl ?_
  refine g_assign rfl rfl ?_
  intro a2 p2
  have s2 : a2.eval (.tmp 2) = .bool false := p2.at hs (by decide)
  replace hs := p2.st hs
  refine wpList_nil ?_
  replace s1 : a2.eval (.tmp 1) = .pointer (some ⟨q2, 0, none⟩) := (p2.ne rfl).trans s1
  refine hK1 _ _ ?_
  clear hK1
  refine wp_seq_k fun K4 hK4 => ?_
  refine wp_region_lit ?_
  refine q_val rfl rfl ?_
  refine g_field (r := 0) rfl s1 Try.underlying32 rfl (fun w => Try.sizeOf3 w) rfl rfl ?_
  intro a3 p3
  have s3 : a3.eval (.tmp 3) = .pointer (some ⟨q2, 0, none⟩) := p3.at hs (by decide)
  replace hs := p3.st hs
  refine q_val rfl rfl ?_
  refine g_load rfl s3 Try.isAgg3 (box_cell h_q2 rfl) ?_
  intro a4 p4
  have s4 : a4.eval (.tmp 4) = .int .i64 x.f0 := p4.at hs (by decide)
  replace hs := p4.st hs
  refine q_val rfl rfl ?_
  refine g_call rfl rfl Try.call38 (arr3 s4 rfl rfl) ?_
  refine (between_any _ _ _ _).mono ?_
  rintro e w' ⟨rfl, rfl⟩
  refine ⟨_, rfl, ?_⟩
  intro a5 p5
  have s5 : a5.eval (.tmp 5) = .bool (inB x.f0 0 15) := p5.at hs (by decide)
  replace hs := p5.st hs
  refine q_val rfl rfl ?_
  refine g_move rfl s5 ?_
  intro a6 p6
  have s6 : a6.eval (.tmp 6) = .bool (inB x.f0 0 15) := p6.at hs (by decide)
  replace hs := p6.st hs
  cases h1 : inB x.f0 0 15
  · replace s5 := s5.trans (congrArg Value.bool h1)
    replace s5 : a5.eval (.tmp 5) = .bool false := s5
    replace s6 := s6.trans (congrArg Value.bool h1)
    replace s6 : a6.eval (.tmp 6) = .bool false := s6
    refine q_skip rfl rfl s6 rfl ?_
    intro a7 p7
    have s7 : a7.eval (.tmp 7) = undef := p7.at hs (by decide)
    replace hs := p7.st hs
    refine q_skip rfl rfl ((p7.ne rfl).trans s6) rfl ?_
    intro a8 p8
    have s8 : a8.eval (.tmp 8) = undef := p8.at hs (by decide)
    replace hs := p8.st hs
    refine q_skip rfl rfl (((p8.ne rfl).trans (p7.ne rfl)).trans s6) rfl ?_
    intro a9 p9
    have s9 : a9.eval (.tmp 9) = undef := p9.at hs (by decide)
    replace hs := p9.st hs
    refine q_val rfl rfl ?_
    refine g_pick_f rfl (((p9.ne rfl).trans ((p8.ne rfl).trans (p7.ne rfl))).trans s6) rfl ?_
    intro a10 p10
    have s10 : a10.eval (.tmp 10) = .bool false := p10.at hs (by decide)
    replace hs := p10.st hs
    refine q_val rfl rfl ?_
    refine g_move rfl s10 ?_
    intro a11 p11
    have s11 : a11.eval (.tmp 11) = .bool false := p11.at hs (by decide)
    replace hs := p11.st hs
    refine q_skip rfl rfl s11 rfl ?_
    intro a12 p12
    have s12 : a12.eval (.tmp 12) = undef := p12.at hs (by decide)
    replace hs := p12.st hs
    refine q_skip rfl rfl ((p12.ne rfl).trans s11) rfl ?_
    intro a13 p13
    have s13 : a13.eval (.tmp 13) = undef := p13.at hs (by decide)
    replace hs := p13.st hs
    refine q_skip rfl rfl (((p13.ne rfl).trans (p12.ne rfl)).trans s11) rfl ?_
    intro a14 p14
    have s14 : a14.eval (.tmp 14) = undef := p14.at hs (by decide)
    replace hs := p14.st hs
    refine q_skip rfl rfl (((p14.ne rfl).trans ((p13.ne rfl).trans (p12.ne rfl))).trans s11) rfl ?_
    intro a15 p15
    have s15 : a15.eval (.tmp 15) = undef := p15.at hs (by decide)
    replace hs := p15.st hs
    refine q_val rfl rfl ?_
    refine g_pick_f rfl (((p15.ne rfl).trans ((p14.ne rfl).trans ((p13.ne rfl).trans (p12.ne rfl)))).trans s11) rfl ?_
    intro a16 p16
    have s16 : a16.eval (.tmp 16) = .bool false := p16.at hs (by decide)
    replace hs := p16.st hs
    refine q_val rfl rfl ?_
    refine g_assign rfl s16 ?_
    intro a17 p17
    have s2 : a17.eval (.tmp 2) = .bool false := p17.at hs (by decide)
    replace hs := p17.st hs
    refine wpList_nil ?_
    refine hK4 _ _ ?_
    clear hK4
    refine wp_ret ?_
    try dsimp only [Exit.then, Exit.inBlock]
    refine ret1 hs Try.results25 (res_tmp s2) ?_
    exact ⟨by unfold pkOk; simp [h1], hB⟩
  · replace s5 := s5.trans (congrArg Value.bool h1)
    replace s5 : a5.eval (.tmp 5) = .bool true := s5
    replace s6 := s6.trans (congrArg Value.bool h1)
    replace s6 : a6.eval (.tmp 6) = .bool true := s6
    refine q_take rfl rfl s6 rfl ?_
    refine g_field (r := 1) rfl (((p6.ne rfl).trans ((p5.ne rfl).trans ((p4.ne rfl).trans (p3.ne rfl)))).trans s1) Try.underlying32 rfl (fun w => Try.sizeOf3 w) rfl rfl ?_
    intro a7 p7
    have s7 : a7.eval (.tmp 7) = .pointer (some ⟨q2, 1, none⟩) := p7.at hs (by decide)
    replace hs := p7.st hs
    refine q_take rfl rfl ((p7.ne rfl).trans s6) rfl ?_
    refine g_load rfl s7 Try.isAgg3 (box_cell h_q2 rfl) ?_
    intro a8 p8
    have s8 : a8.eval (.tmp 8) = .int .i64 x.f1 := p8.at hs (by decide)
    replace hs := p8.st hs
    refine q_take rfl rfl (((p8.ne rfl).trans (p7.ne rfl)).trans s6) rfl ?_
    refine g_call rfl rfl Try.call38 (arr3 s8 rfl rfl) ?_
    refine (between_any _ _ _ _).mono ?_
    rintro e w' ⟨rfl, rfl⟩
    refine ⟨_, rfl, ?_⟩
    intro a9 p9
    have s9 : a9.eval (.tmp 9) = .bool (inB x.f1 0 65535) := p9.at hs (by decide)
    replace hs := p9.st hs
    refine q_val rfl rfl ?_
    refine g_pick_t rfl (((p9.ne rfl).trans ((p8.ne rfl).trans (p7.ne rfl))).trans s6) s9 ?_
    intro a10 p10
    have s10 : a10.eval (.tmp 10) = .bool (inB x.f1 0 65535) := p10.at hs (by decide)
    replace hs := p10.st hs
    refine q_val rfl rfl ?_
    refine g_move rfl s10 ?_
    intro a11 p11
    have s11 : a11.eval (.tmp 11) = .bool (inB x.f1 0 65535) := p11.at hs (by decide)
    replace hs := p11.st hs
    cases h2 : inB x.f1 0 65535
    · replace s9 := s9.trans (congrArg Value.bool h2)
      replace s9 : a9.eval (.tmp 9) = .bool false := s9
      replace s10 := s10.trans (congrArg Value.bool h2)
      replace s10 : a10.eval (.tmp 10) = .bool false := s10
      replace s11 := s11.trans (congrArg Value.bool h2)
      replace s11 : a11.eval (.tmp 11) = .bool false := s11
      refine q_skip rfl rfl s11 rfl ?_
      intro a12 p12
      have s12 : a12.eval (.tmp 12) = undef := p12.at hs (by decide)
      replace hs := p12.st hs
      refine q_skip rfl rfl ((p12.ne rfl).trans s11) rfl ?_
      intro a13 p13
      have s13 : a13.eval (.tmp 13) = undef := p13.at hs (by decide)
      replace hs := p13.st hs
      refine q_skip rfl rfl (((p13.ne rfl).trans (p12.ne rfl)).trans s11) rfl ?_
      intro a14 p14
      have s14 : a14.eval (.tmp 14) = undef := p14.at hs (by decide)
      replace hs := p14.st hs
      refine q_skip rfl rfl (((p14.ne rfl).trans ((p13.ne rfl).trans (p12.ne rfl))).trans s11) rfl ?_
      intro a15 p15
      have s15 : a15.eval (.tmp 15) = undef := p15.at hs (by decide)
      replace hs := p15.st hs
      refine q_val rfl rfl ?_
      refine g_pick_f rfl (((p15.ne rfl).trans ((p14.ne rfl).trans ((p13.ne rfl).trans (p12.ne rfl)))).trans s11) rfl ?_
      intro a16 p16
      have s16 : a16.eval (.tmp 16) = .bool false := p16.at hs (by decide)
      replace hs := p16.st hs
      refine q_val rfl rfl ?_
      refine g_assign rfl s16 ?_
      intro a17 p17
      have s2 : a17.eval (.tmp 2) = .bool false := p17.at hs (by decide)
      replace hs := p17.st hs
      refine wpList_nil ?_
      refine hK4 _ _ ?_
      clear hK4
      refine wp_ret ?_
      try dsimp only [Exit.then, Exit.inBlock]
      refine ret1 hs Try.results25 (res_tmp s2) ?_
      exact ⟨by unfold pkOk; simp [h1, h2], hB⟩
    · replace s9 := s9.trans (congrArg Value.bool h2)
      replace s9 : a9.eval (.tmp 9) = .bool true := s9
      replace s10 := s10.trans (congrArg Value.bool h2)
      replace s10 : a10.eval (.tmp 10) = .bool true := s10
      replace s11 := s11.trans (congrArg Value.bool h2)
      replace s11 : a11.eval (.tmp 11) = .bool true := s11
      refine q_take rfl rfl s11 rfl ?_
      refine g_field (r := 2) rfl (((p11.ne rfl).trans ((p10.ne rfl).trans ((p9.ne rfl).trans ((p8.ne rfl).trans ((p7.ne rfl).trans ((p6.ne rfl).trans ((p5.ne rfl).trans ((p4.ne rfl).trans (p3.ne rfl))))))))).trans s1) Try.underlying32 rfl (fun w => Try.sizeOf9 w) rfl rfl ?_
      intro a12 p12
      have s12 : a12.eval (.tmp 12) = .pointer (some ⟨q2, 2, none⟩) := p12.at hs (by decide)
      replace hs := p12.st hs
      refine q_take rfl rfl ((p12.ne rfl).trans s11) rfl ?_
      refine g_load rfl s12 Try.isAgg9 (box_cell h_q2 rfl) ?_
      intro a13 p13
      have s13 : a13.eval (.tmp 13) = .string ⟨(x.f2).toArray⟩ := p13.at hs (by decide)
      replace hs := p13.st hs
      refine q_take rfl rfl (((p13.ne rfl).trans (p12.ne rfl)).trans s11) rfl ?_
      refine g_lenS rfl Try.underlying9 s13 ?_
      intro a14 p14
      have s14 : a14.eval (.tmp 14) = .int .i64 (((x.f2).length : Nat) : Int) := p14.at hs (by decide)
      replace hs := p14.st hs
      refine q_take rfl rfl (((p14.ne rfl).trans ((p13.ne rfl).trans (p12.ne rfl))).trans s11) rfl ?_
      refine g_leq rfl s14 rfl ?_
      intro a15 p15
      have s15 : a15.eval (.tmp 15) = .bool (decide ((((x.f2).length : Nat) : Int) ≤ 40)) := p15.at hs (by decide)
      replace hs := p15.st hs
      refine q_val rfl rfl ?_
      refine g_pick_t rfl (((p15.ne rfl).trans ((p14.ne rfl).trans ((p13.ne rfl).trans (p12.ne rfl)))).trans s11) s15 ?_
      intro a16 p16
      have s16 : a16.eval (.tmp 16) = .bool (decide ((((x.f2).length : Nat) : Int) ≤ 40)) := p16.at hs (by decide)
      replace hs := p16.st hs
      refine q_val rfl rfl ?_
      refine g_assign rfl s16 ?_
      intro a17 p17
      have s2 : a17.eval (.tmp 2) = .bool (decide ((((x.f2).length : Nat) : Int) ≤ 40)) := p17.at hs (by decide)
      replace hs := p17.st hs
      refine wpList_nil ?_
      refine hK4 _ _ ?_
      clear hK4
      refine wp_ret ?_
      try dsimp only [Exit.then, Exit.inBlock]
      refine ret1 hs Try.results25 (res_tmp s2) ?_
      exact ⟨by unfold pkOk; simp [h1, h2], hB⟩
set_option maxRecDepth 100000 in
set_option maxHeartbeats 4000000 in
theorem encodePacket_any {x : EPacket} (w : World) (hx : Txt x.f2) :
    Calls Try.prog 23 #[.agg #[.int .i64 x.f0, .int .i64 x.f1, .string ⟨(x.f2).toArray⟩]] w fun e w' => e = .returned (.string ⟨(pkEnc x).toArray⟩) ∧ Below w.heap.size w w' := by
  refine enter 21 Try.func23 rfl rfl (Nat.le_of_ble_eq_true rfl) ?_
  intro a0 hs hargs
  have s0 : a0.eval (.tmp 0) = .agg #[.int .i64 x.f0, .int .i64 x.f1, .string ⟨(x.f2).toArray⟩] := hargs 0 _ rfl
  clear hargs
  have hB : Below w.heap.size w w := Below.refl _ _
  refine wp_seq_k fun K1 hK1 => ?_
  refine wp_region_lit ?_
  refine q_val rfl rfl ?_
  refine g_box rfl s0 rfl ?_
  intro q2 w3 N_q2
  have g_q2 : GeB w.heap.size q2 := ⟨Nat.le_trans hB.size N_q2.lo⟩
  replace hB := below_new hB hB.size N_q2
  have h_q2 := N_q2.here
  clear N_q2
  intro a1 p1
  have s1 : a1.eval (.tmp 1) = .pointer (some ⟨q2, 0, none⟩) := p1.at hs (by decide)
  replace hs := p1.st hs
  refine q_val rfl rfl ?_
  refine g_assign rfl rfl ?_
  intro a2 p2
  have s2 : a2.eval (.tmp 2) = .string ⟨#[]⟩ := p2.at hs (by decide)
  replace hs := p2.st hs
  refine wpList_nil ?_
  replace s1 : a2.eval (.tmp 1) = .pointer (some ⟨q2, 0, none⟩) := (p2.ne rfl).trans s1
  refine hK1 _ _ ?_
  clear hK1
  refine wp_seq_k fun K4 hK4 => ?_
  refine wp_seq_k fun K5 hK5 => ?_
  refine wp_region_lit ?_
  refine q_val rfl rfl ?_
  refine g_loadB rfl s1 Try.isAgg32 Try.sizeOf32 rfl h_q2 ?_
  intro a3 p3
  have s3 : a3.eval (.tmp 3) = .agg #[.int .i64 x.f0, .int .i64 x.f1, .string ⟨(x.f2).toArray⟩] := p3.at hs (by decide)
  replace hs := p3.st hs
  refine q_val rfl rfl ?_
  refine g_call rfl rfl Try.call25 (arr1 s3) ?_
  refine (packetOk_any _ hx).mono ?_
  rintro e w7 ⟨rfl, hb6⟩
  refine ⟨_, rfl, ?_⟩
  replace h_q2 := keep_below h_q2 hb6
  replace hB := hB.trans (hb6.mono hB.size)
  clear hb6
  intro a4 p4
  have s4 : a4.eval (.tmp 4) = .bool (pkOk x) := p4.at hs (by decide)
  replace hs := p4.st hs
  refine q_val rfl rfl ?_
  refine g_not rfl s4 ?_
  intro a5 p5
  have s5 : a5.eval (.tmp 5) = .bool (!(pkOk x)) := p5.at hs (by decide)
  replace hs := p5.st hs
  refine wpList_nil ?_
  replace s1 : a5.eval (.tmp 1) = .pointer (some ⟨q2, 0, none⟩) := ((p5.ne rfl).trans ((p4.ne rfl).trans (p3.ne rfl))).trans s1
  replace s2 : a5.eval (.tmp 2) = .string ⟨#[]⟩ := ((p5.ne rfl).trans ((p4.ne rfl).trans (p3.ne rfl))).trans s2
  refine hK5 _ _ ?_
  clear hK5
  cases hok : pkOk x
  · replace s5 := s5.trans (congrArg (fun b => Value.bool (!b)) hok)
    replace s5 : a5.eval (.tmp 5) = .bool true := s5
    refine c_true s5 ?_
    refine wp_seq_k fun K8 hK8 => ?_
    refine wp_region_lit ?_
    refine q_val rfl rfl ?_
    refine g_assign rfl rfl ?_
    intro a6 p6
    have s2 : a6.eval (.tmp 2) = .string ⟨#[]⟩ := p6.at hs (by decide)
    replace hs := p6.st hs
    refine wpList_nil ?_
    replace s1 : a6.eval (.tmp 1) = .pointer (some ⟨q2, 0, none⟩) := (p6.ne rfl).trans s1
    refine hK8 _ _ ?_
    clear hK8
    refine wp_ret ?_
    try dsimp only [Exit.then, Exit.inBlock]
    refine ret1 hs Try.results23 (res_tmp s2) ?_
    exact ⟨by unfold pkEnc pkB; rw [hok]; rfl, hB⟩
  · replace s5 := s5.trans (congrArg (fun b => Value.bool (!b)) hok)
    replace s5 : a5.eval (.tmp 5) = .bool false := s5
    refine c_false s5 ?_
    refine wp_skip ?_
    refine hK4 _ _ ?_
    clear hK4
    refine wp_seq_k fun K9 hK9 => ?_
    obtain ⟨⟨hp1, hp2⟩, ⟨hp3, hp4⟩, hp5⟩ := pkOk_parts hok
    refine wp_drawn (n := 21) [] [] [] (fun k_ v_ _wx => match k_ with | 0 => v_ = .pointer (some ⟨q2, 0, none⟩) | 1 => v_ = .int .i64 x.f0 | 2 => v_ = .string ⟨(pw1 x.f0).toArray⟩ | 3 => v_ = .pointer (some ⟨q2, 1, none⟩) | 4 => v_ = .int .i64 x.f1 | 5 => v_ = .string ⟨(pw2 x.f1).toArray⟩ | 6 => v_ = .string ⟨((pw1 x.f0) ++ (pw2 x.f1)).toArray⟩ | 7 => v_ = .pointer (some ⟨q2, 2, none⟩) | 8 => v_ = .string ⟨(x.f2).toArray⟩ | 9 => v_ = .int .i64 (((x.f2).length : Nat) : Int) | 10 => v_ = .string ⟨(pw1 (((x.f2).length : Nat) : Int)).toArray⟩ | 11 => v_ = .string ⟨(((pw1 x.f0) ++ (pw2 x.f1)) ++ (pw1 (((x.f2).length : Nat) : Int))).toArray⟩ | 12 => v_ = .pointer (some ⟨q2, 2, none⟩) | 13 => v_ = .string ⟨(x.f2).toArray⟩ | 14 => v_ = .string ⟨((((pw1 x.f0) ++ (pw2 x.f1)) ++ (pw1 (((x.f2).length : Nat) : Int))) ++ x.f2).toArray⟩ | 15 => v_ = .string ⟨((((pw1 x.f0) ++ (pw2 x.f1)) ++ (pw1 (((x.f2).length : Nat) : Int))) ++ x.f2).toArray⟩ | _ => True) (by kernel_rfl) (by kernel_rfl) (by kernel_rfl) (by kernel_rfl) hs.size ?_ ?_ ?_
    · intro i v wa wb hb hr
      rcases i with _ | _ | _ | _ | _ | _ | _ | _ | _ | _ | _ | _ | _ | _ | _ | _ | i
      · exact hr
      · exact hr
      · exact hr
      · exact hr
      · exact hr
      · exact hr
      · exact hr
      · exact hr
      · exact hr
      · exact hr
      · exact hr
      · exact hr
      · exact hr
      · exact hr
      · exact hr
      · exact hr
      · trivial
    · refine d_step rfl rfl ?_ (d_step rfl rfl ?_ (d_step rfl rfl ?_ (d_step rfl rfl ?_ (d_step rfl rfl ?_ (d_step rfl rfl ?_ (d_step rfl rfl ?_ (d_step rfl rfl ?_ (d_step rfl rfl ?_ (d_step rfl rfl ?_ (d_step rfl rfl ?_ (d_step rfl rfl ?_ (d_step rfl rfl ?_ (d_step rfl rfl ?_ (d_step rfl rfl ?_ (d_step rfl rfl ?_ (d_nil))))))))))))))))
      · intro xv_ wx ρ hρ hwx hd K hK
        have e1 : ρ (.tmp 1) = .pointer (some ⟨q2, 0, none⟩) := (hρ.inn 1 rfl).trans s1
        refine g_field (r := 0) rfl e1 Try.underlying32 rfl (fun w => Try.sizeOf3 w) rfl rfl ?_
        exact hK _ _ (Below.refl _ _) rfl
      · intro xv_ wx ρ hρ hwx hd K hK
        obtain r0 : xv_ 0 = .pointer (some ⟨q2, 0, none⟩) := hd 0 rfl
        have e6 : ρ (.tmp 6) = .pointer (some ⟨q2, 0, none⟩) := (hρ.out 0 6 rfl (by rw [hs.size]; decide) rfl).trans r0
        have h_q2 := keep_below h_q2 hwx
        refine g_load rfl e6 Try.isAgg3 (box_cell h_q2 rfl) ?_
        exact hK _ _ (Below.refl _ _) rfl
      · intro xv_ wx ρ hρ hwx hd K hK
        obtain r1 : xv_ 1 = .int .i64 x.f0 := hd 1 rfl
        have e7 : ρ (.tmp 7) = .int .i64 x.f0 := (hρ.out 1 7 rfl (by rw [hs.size]; decide) rfl).trans r1
        refine g_call rfl (hρ.fn _) Try.call47 (arr2 e7 (hρ.cst _)) ?_
        refine (putWord1 _ _ (by omega) (by omega)).mono ?_
        rintro e wy ⟨rfl, hb10⟩
        exact ⟨_, rfl, hK _ _ hb10 rfl⟩
      · intro xv_ wx ρ hρ hwx hd K hK
        have e1 : ρ (.tmp 1) = .pointer (some ⟨q2, 0, none⟩) := (hρ.inn 1 rfl).trans s1
        refine g_field (r := 1) rfl e1 Try.underlying32 rfl (fun w => Try.sizeOf3 w) rfl rfl ?_
        exact hK _ _ (Below.refl _ _) rfl
      · intro xv_ wx ρ hρ hwx hd K hK
        obtain r3 : xv_ 3 = .pointer (some ⟨q2, 1, none⟩) := hd 3 rfl
        have e9 : ρ (.tmp 9) = .pointer (some ⟨q2, 1, none⟩) := (hρ.out 3 9 rfl (by rw [hs.size]; decide) rfl).trans r3
        have h_q2 := keep_below h_q2 hwx
        refine g_load rfl e9 Try.isAgg3 (box_cell h_q2 rfl) ?_
        exact hK _ _ (Below.refl _ _) rfl
      · intro xv_ wx ρ hρ hwx hd K hK
        obtain r4 : xv_ 4 = .int .i64 x.f1 := hd 4 rfl
        have e10 : ρ (.tmp 10) = .int .i64 x.f1 := (hρ.out 4 10 rfl (by rw [hs.size]; decide) rfl).trans r4
        refine g_call rfl (hρ.fn _) Try.call47 (arr2 e10 (hρ.cst _)) ?_
        refine (putWord2 _ _ (by omega) (by omega)).mono ?_
        rintro e wy ⟨rfl, hb11⟩
        exact ⟨_, rfl, hK _ _ hb11 rfl⟩
      · intro xv_ wx ρ hρ hwx hd K hK
        obtain r2 : xv_ 2 = .string ⟨(pw1 x.f0).toArray⟩ := hd 2 rfl
        have e8 : ρ (.tmp 8) = .string ⟨(pw1 x.f0).toArray⟩ := (hρ.out 2 8 rfl (by rw [hs.size]; decide) rfl).trans r2
        obtain r5 : xv_ 5 = .string ⟨(pw2 x.f1).toArray⟩ := hd 5 rfl
        have e11 : ρ (.tmp 11) = .string ⟨(pw2 x.f1).toArray⟩ := (hρ.out 5 11 rfl (by rw [hs.size]; decide) rfl).trans r5
        refine g_concat rfl e8 e11 (by simp only [List.length_append, pw1_len, pw2_len, pw3_len]; omega) ?_
        exact hK _ _ (Below.refl _ _) rfl
      · intro xv_ wx ρ hρ hwx hd K hK
        have e1 : ρ (.tmp 1) = .pointer (some ⟨q2, 0, none⟩) := (hρ.inn 1 rfl).trans s1
        refine g_field (r := 2) rfl e1 Try.underlying32 rfl (fun w => Try.sizeOf9 w) rfl rfl ?_
        exact hK _ _ (Below.refl _ _) rfl
      · intro xv_ wx ρ hρ hwx hd K hK
        obtain r7 : xv_ 7 = .pointer (some ⟨q2, 2, none⟩) := hd 7 rfl
        have e13 : ρ (.tmp 13) = .pointer (some ⟨q2, 2, none⟩) := (hρ.out 7 13 rfl (by rw [hs.size]; decide) rfl).trans r7
        have h_q2 := keep_below h_q2 hwx
        refine g_load rfl e13 Try.isAgg9 (box_cell h_q2 rfl) ?_
        exact hK _ _ (Below.refl _ _) rfl
      · intro xv_ wx ρ hρ hwx hd K hK
        obtain r8 : xv_ 8 = .string ⟨(x.f2).toArray⟩ := hd 8 rfl
        have e14 : ρ (.tmp 14) = .string ⟨(x.f2).toArray⟩ := (hρ.out 8 14 rfl (by rw [hs.size]; decide) rfl).trans r8
        refine g_lenS rfl Try.underlying9 e14 ?_
        exact hK _ _ (Below.refl _ _) rfl
      · intro xv_ wx ρ hρ hwx hd K hK
        obtain r9 : xv_ 9 = .int .i64 (((x.f2).length : Nat) : Int) := hd 9 rfl
        have e15 : ρ (.tmp 15) = .int .i64 (((x.f2).length : Nat) : Int) := (hρ.out 9 15 rfl (by rw [hs.size]; decide) rfl).trans r9
        refine g_call rfl (hρ.fn _) Try.call47 (arr2 e15 (hρ.cst _)) ?_
        refine (putWord1 _ _ (by omega) (by omega)).mono ?_
        rintro e wy ⟨rfl, hb12⟩
        exact ⟨_, rfl, hK _ _ hb12 rfl⟩
      · intro xv_ wx ρ hρ hwx hd K hK
        obtain r6 : xv_ 6 = .string ⟨((pw1 x.f0) ++ (pw2 x.f1)).toArray⟩ := hd 6 rfl
        have e12 : ρ (.tmp 12) = .string ⟨((pw1 x.f0) ++ (pw2 x.f1)).toArray⟩ := (hρ.out 6 12 rfl (by rw [hs.size]; decide) rfl).trans r6
        obtain r10 : xv_ 10 = .string ⟨(pw1 (((x.f2).length : Nat) : Int)).toArray⟩ := hd 10 rfl
        have e16 : ρ (.tmp 16) = .string ⟨(pw1 (((x.f2).length : Nat) : Int)).toArray⟩ := (hρ.out 10 16 rfl (by rw [hs.size]; decide) rfl).trans r10
        refine g_concat rfl e12 e16 (by simp only [List.length_append, pw1_len, pw2_len, pw3_len]; omega) ?_
        exact hK _ _ (Below.refl _ _) rfl
      · intro xv_ wx ρ hρ hwx hd K hK
        have e1 : ρ (.tmp 1) = .pointer (some ⟨q2, 0, none⟩) := (hρ.inn 1 rfl).trans s1
        refine g_field (r := 2) rfl e1 Try.underlying32 rfl (fun w => Try.sizeOf9 w) rfl rfl ?_
        exact hK _ _ (Below.refl _ _) rfl
      · intro xv_ wx ρ hρ hwx hd K hK
        obtain r12 : xv_ 12 = .pointer (some ⟨q2, 2, none⟩) := hd 12 rfl
        have e18 : ρ (.tmp 18) = .pointer (some ⟨q2, 2, none⟩) := (hρ.out 12 18 rfl (by rw [hs.size]; decide) rfl).trans r12
        have h_q2 := keep_below h_q2 hwx
        refine g_load rfl e18 Try.isAgg9 (box_cell h_q2 rfl) ?_
        exact hK _ _ (Below.refl _ _) rfl
      · intro xv_ wx ρ hρ hwx hd K hK
        obtain r11 : xv_ 11 = .string ⟨(((pw1 x.f0) ++ (pw2 x.f1)) ++ (pw1 (((x.f2).length : Nat) : Int))).toArray⟩ := hd 11 rfl
        have e17 : ρ (.tmp 17) = .string ⟨(((pw1 x.f0) ++ (pw2 x.f1)) ++ (pw1 (((x.f2).length : Nat) : Int))).toArray⟩ := (hρ.out 11 17 rfl (by rw [hs.size]; decide) rfl).trans r11
        obtain r13 : xv_ 13 = .string ⟨(x.f2).toArray⟩ := hd 13 rfl
        have e19 : ρ (.tmp 19) = .string ⟨(x.f2).toArray⟩ := (hρ.out 13 19 rfl (by rw [hs.size]; decide) rfl).trans r13
        refine g_concat rfl e17 e19 (by simp only [List.length_append, pw1_len, pw2_len, pw3_len]; omega) ?_
        exact hK _ _ (Below.refl _ _) rfl
      · intro xv_ wx ρ hρ hwx hd K hK
        obtain r14 : xv_ 14 = .string ⟨((((pw1 x.f0) ++ (pw2 x.f1)) ++ (pw1 (((x.f2).length : Nat) : Int))) ++ x.f2).toArray⟩ := hd 14 rfl
        have e20 : ρ (.tmp 20) = .string ⟨((((pw1 x.f0) ++ (pw2 x.f1)) ++ (pw1 (((x.f2).length : Nat) : Int))) ++ x.f2).toArray⟩ := (hρ.out 14 20 rfl (by rw [hs.size]; decide) rfl).trans r14
        refine g_assign rfl e20 ?_
        exact hK _ _ (Below.refl _ _) rfl
    · intro x0_ w13 hb_w13 hr0
      obtain r0 : x0_ 0 = .pointer (some ⟨q2, 0, none⟩) := hr0 0 (by decide) rfl rfl
      obtain r1 : x0_ 1 = .int .i64 x.f0 := hr0 1 (by decide) rfl rfl
      obtain r2 : x0_ 2 = .string ⟨(pw1 x.f0).toArray⟩ := hr0 2 (by decide) rfl rfl
      obtain r3 : x0_ 3 = .pointer (some ⟨q2, 1, none⟩) := hr0 3 (by decide) rfl rfl
      obtain r4 : x0_ 4 = .int .i64 x.f1 := hr0 4 (by decide) rfl rfl
      obtain r5 : x0_ 5 = .string ⟨(pw2 x.f1).toArray⟩ := hr0 5 (by decide) rfl rfl
      obtain r6 : x0_ 6 = .string ⟨((pw1 x.f0) ++ (pw2 x.f1)).toArray⟩ := hr0 6 (by decide) rfl rfl
      obtain r7 : x0_ 7 = .pointer (some ⟨q2, 2, none⟩) := hr0 7 (by decide) rfl rfl
      obtain r8 : x0_ 8 = .string ⟨(x.f2).toArray⟩ := hr0 8 (by decide) rfl rfl
      obtain r9 : x0_ 9 = .int .i64 (((x.f2).length : Nat) : Int) := hr0 9 (by decide) rfl rfl
      obtain r10 : x0_ 10 = .string ⟨(pw1 (((x.f2).length : Nat) : Int)).toArray⟩ := hr0 10 (by decide) rfl rfl
      obtain r11 : x0_ 11 = .string ⟨(((pw1 x.f0) ++ (pw2 x.f1)) ++ (pw1 (((x.f2).length : Nat) : Int))).toArray⟩ := hr0 11 (by decide) rfl rfl
      obtain r12 : x0_ 12 = .pointer (some ⟨q2, 2, none⟩) := hr0 12 (by decide) rfl rfl
      obtain r13 : x0_ 13 = .string ⟨(x.f2).toArray⟩ := hr0 13 (by decide) rfl rfl
      obtain r14 : x0_ 14 = .string ⟨((((pw1 x.f0) ++ (pw2 x.f1)) ++ (pw1 (((x.f2).length : Nat) : Int))) ++ x.f2).toArray⟩ := hr0 14 (by decide) rfl rfl
      obtain r15 : x0_ 15 = .string ⟨((((pw1 x.f0) ++ (pw2 x.f1)) ++ (pw1 (((x.f2).length : Nat) : Int))) ++ x.f2).toArray⟩ := hr0 15 (by decide) rfl rfl
      clear hr0
      replace h_q2 := keep_below h_q2 hb_w13
      replace hB := hB.trans (hb_w13.mono hB.size)
      clear hb_w13
      intro xv_ a6 hρ hsz hdf qx_ ql_ qk_ qlk_
      have s2 : a6.eval (.tmp 2) = .string ⟨((((pw1 x.f0) ++ (pw2 x.f1)) ++ (pw1 (((x.f2).length : Nat) : Int))) ++ x.f2).toArray⟩ := (hρ.out 15 2 rfl (by rw [hs.size]; decide)).trans ((qx_ 15 (by decide) rfl rfl).trans r15)
      replace hs : St 21 a6 := ⟨hsz.trans hs.size, hdf.trans hs.nodef⟩
      clear hρ hsz hdf qx_ ql_ qk_ qlk_
      refine hK9 _ _ ?_
      clear hK9
      refine wp_ret ?_
      try dsimp only [Exit.then, Exit.inBlock]
      refine ret1 hs Try.results23 (res_tmp s2) ?_
      exact ⟨by unfold pkEnc pkB; rw [hok]; rfl, hB⟩
set_option maxRecDepth 100000 in
theorem sPacketOk_any {x : EPacket} (w : World) (hx : Txt x.f2) :
    Calls Try.prog 63 #[.agg #[.int .i64 x.f0, .int .i64 x.f1, .string ⟨(x.f2).toArray⟩]] w fun e w' => e = .returned (.bool (pkOk x)) ∧ Below w.heap.size w w' := by
  unfold Txt at hx
  refine enter 17 Try.func63 rfl rfl (Nat.le_of_ble_eq_true rfl) ?_
  intro a0 hs hargs
  have s0 : a0.eval (.tmp 0) = .agg #[.int .i64 x.f0, .int .i64 x.f1, .string ⟨(x.f2).toArray⟩] := hargs 0 _ rfl
  clear hargs
  have hB : Below w.heap.size w w := Below.refl _ _
  refine wp_seq_k fun K1 hK1 => ?_
  refine wp_region_lit ?_
  refine q_val rfl rfl ?_
  refine g_box rfl s0 rfl ?_
  intro q2 w3 N_q2
  have g_q2 : GeB w.heap.size q2 := ⟨Nat.le_trans hB.size N_q2.lo⟩
  replace hB := below_new hB hB.size N_q2
  have h_q2 := N_q2.here
  clear N_q2
  intro a1 p1
  have s1 : a1.eval (.tmp 1) = .pointer (some ⟨q2, 0, none⟩) := p1.at hs (by decide)
  replace hs := p1.st hs
  refine q_val rfl rfl ?_
  refine g_assign rfl rfl ?_
  intro a2 p2
  have s2 : a2.eval (.tmp 2) = .bool false := p2.at hs (by decide)
  replace hs := p2.st hs
  refine wpList_nil ?_
  replace s1 : a2.eval (.tmp 1) = .pointer (some ⟨q2, 0, none⟩) := (p2.ne rfl).trans s1
  refine hK1 _ _ ?_
  clear hK1
  refine wp_seq_k fun K4 hK4 => ?_
  refine wp_region_lit ?_
  refine q_val rfl rfl ?_
  refine g_field (r := 0) rfl s1 Try.underlying32 rfl (fun w => Try.sizeOf3 w) rfl rfl ?_
  intro a3 p3
  have s3 : a3.eval (.tmp 3) = .pointer (some ⟨q2, 0, none⟩) := p3.at hs (by decide)
  replace hs := p3.st hs
  refine q_val rfl rfl ?_
  refine g_load rfl s3 Try.isAgg3 (box_cell h_q2 rfl) ?_
  intro a4 p4
  have s4 : a4.eval (.tmp 4) = .int .i64 x.f0 := p4.at hs (by decide)
  replace hs := p4.st hs
  refine q_val rfl rfl ?_
  refine g_call rfl rfl Try.call62 (arr3 s4 rfl rfl) ?_
  refine (l01In_any _ _ _ _).mono ?_
  rintro e w' ⟨rfl, rfl⟩
  refine ⟨_, rfl, ?_⟩
  intro a5 p5
  have s5 : a5.eval (.tmp 5) = .bool (inB x.f0 0 15) := p5.at hs (by decide)
  replace hs := p5.st hs
  refine q_val rfl rfl ?_
  refine g_move rfl s5 ?_
  intro a6 p6
  have s6 : a6.eval (.tmp 6) = .bool (inB x.f0 0 15) := p6.at hs (by decide)
  replace hs := p6.st hs
  cases h1 : inB x.f0 0 15
  · replace s5 := s5.trans (congrArg Value.bool h1)
    replace s5 : a5.eval (.tmp 5) = .bool false := s5
    replace s6 := s6.trans (congrArg Value.bool h1)
    replace s6 : a6.eval (.tmp 6) = .bool false := s6
    refine q_skip rfl rfl s6 rfl ?_
    intro a7 p7
    have s7 : a7.eval (.tmp 7) = undef := p7.at hs (by decide)
    replace hs := p7.st hs
    refine q_skip rfl rfl ((p7.ne rfl).trans s6) rfl ?_
    intro a8 p8
    have s8 : a8.eval (.tmp 8) = undef := p8.at hs (by decide)
    replace hs := p8.st hs
    refine q_skip rfl rfl (((p8.ne rfl).trans (p7.ne rfl)).trans s6) rfl ?_
    intro a9 p9
    have s9 : a9.eval (.tmp 9) = undef := p9.at hs (by decide)
    replace hs := p9.st hs
    refine q_val rfl rfl ?_
    refine g_pick_f rfl (((p9.ne rfl).trans ((p8.ne rfl).trans (p7.ne rfl))).trans s6) rfl ?_
    intro a10 p10
    have s10 : a10.eval (.tmp 10) = .bool false := p10.at hs (by decide)
    replace hs := p10.st hs
    refine q_val rfl rfl ?_
    refine g_move rfl s10 ?_
    intro a11 p11
    have s11 : a11.eval (.tmp 11) = .bool false := p11.at hs (by decide)
    replace hs := p11.st hs
    refine q_skip rfl rfl s11 rfl ?_
    intro a12 p12
    have s12 : a12.eval (.tmp 12) = undef := p12.at hs (by decide)
    replace hs := p12.st hs
    refine q_skip rfl rfl ((p12.ne rfl).trans s11) rfl ?_
    intro a13 p13
    have s13 : a13.eval (.tmp 13) = undef := p13.at hs (by decide)
    replace hs := p13.st hs
    refine q_skip rfl rfl (((p13.ne rfl).trans (p12.ne rfl)).trans s11) rfl ?_
    intro a14 p14
    have s14 : a14.eval (.tmp 14) = undef := p14.at hs (by decide)
    replace hs := p14.st hs
    refine q_skip rfl rfl (((p14.ne rfl).trans ((p13.ne rfl).trans (p12.ne rfl))).trans s11) rfl ?_
    intro a15 p15
    have s15 : a15.eval (.tmp 15) = undef := p15.at hs (by decide)
    replace hs := p15.st hs
    refine q_val rfl rfl ?_
    refine g_pick_f rfl (((p15.ne rfl).trans ((p14.ne rfl).trans ((p13.ne rfl).trans (p12.ne rfl)))).trans s11) rfl ?_
    intro a16 p16
    have s16 : a16.eval (.tmp 16) = .bool false := p16.at hs (by decide)
    replace hs := p16.st hs
    refine q_val rfl rfl ?_
    refine g_assign rfl s16 ?_
    intro a17 p17
    have s2 : a17.eval (.tmp 2) = .bool false := p17.at hs (by decide)
    replace hs := p17.st hs
    refine wpList_nil ?_
    refine hK4 _ _ ?_
    clear hK4
    refine wp_ret ?_
    try dsimp only [Exit.then, Exit.inBlock]
    refine ret1 hs Try.results63 (res_tmp s2) ?_
    exact ⟨by unfold pkOk; simp [h1], hB⟩
  · replace s5 := s5.trans (congrArg Value.bool h1)
    replace s5 : a5.eval (.tmp 5) = .bool true := s5
    replace s6 := s6.trans (congrArg Value.bool h1)
    replace s6 : a6.eval (.tmp 6) = .bool true := s6
    refine q_take rfl rfl s6 rfl ?_
    refine g_field (r := 1) rfl (((p6.ne rfl).trans ((p5.ne rfl).trans ((p4.ne rfl).trans (p3.ne rfl)))).trans s1) Try.underlying32 rfl (fun w => Try.sizeOf3 w) rfl rfl ?_
    intro a7 p7
    have s7 : a7.eval (.tmp 7) = .pointer (some ⟨q2, 1, none⟩) := p7.at hs (by decide)
    replace hs := p7.st hs
    refine q_take rfl rfl ((p7.ne rfl).trans s6) rfl ?_
    refine g_load rfl s7 Try.isAgg3 (box_cell h_q2 rfl) ?_
    intro a8 p8
    have s8 : a8.eval (.tmp 8) = .int .i64 x.f1 := p8.at hs (by decide)
    replace hs := p8.st hs
    refine q_take rfl rfl (((p8.ne rfl).trans (p7.ne rfl)).trans s6) rfl ?_
    refine g_call rfl rfl Try.call62 (arr3 s8 rfl rfl) ?_
    refine (l01In_any _ _ _ _).mono ?_
    rintro e w' ⟨rfl, rfl⟩
    refine ⟨_, rfl, ?_⟩
    intro a9 p9
    have s9 : a9.eval (.tmp 9) = .bool (inB x.f1 0 65535) := p9.at hs (by decide)
    replace hs := p9.st hs
    refine q_val rfl rfl ?_
    refine g_pick_t rfl (((p9.ne rfl).trans ((p8.ne rfl).trans (p7.ne rfl))).trans s6) s9 ?_
    intro a10 p10
    have s10 : a10.eval (.tmp 10) = .bool (inB x.f1 0 65535) := p10.at hs (by decide)
    replace hs := p10.st hs
    refine q_val rfl rfl ?_
    refine g_move rfl s10 ?_
    intro a11 p11
    have s11 : a11.eval (.tmp 11) = .bool (inB x.f1 0 65535) := p11.at hs (by decide)
    replace hs := p11.st hs
    cases h2 : inB x.f1 0 65535
    · replace s9 := s9.trans (congrArg Value.bool h2)
      replace s9 : a9.eval (.tmp 9) = .bool false := s9
      replace s10 := s10.trans (congrArg Value.bool h2)
      replace s10 : a10.eval (.tmp 10) = .bool false := s10
      replace s11 := s11.trans (congrArg Value.bool h2)
      replace s11 : a11.eval (.tmp 11) = .bool false := s11
      refine q_skip rfl rfl s11 rfl ?_
      intro a12 p12
      have s12 : a12.eval (.tmp 12) = undef := p12.at hs (by decide)
      replace hs := p12.st hs
      refine q_skip rfl rfl ((p12.ne rfl).trans s11) rfl ?_
      intro a13 p13
      have s13 : a13.eval (.tmp 13) = undef := p13.at hs (by decide)
      replace hs := p13.st hs
      refine q_skip rfl rfl (((p13.ne rfl).trans (p12.ne rfl)).trans s11) rfl ?_
      intro a14 p14
      have s14 : a14.eval (.tmp 14) = undef := p14.at hs (by decide)
      replace hs := p14.st hs
      refine q_skip rfl rfl (((p14.ne rfl).trans ((p13.ne rfl).trans (p12.ne rfl))).trans s11) rfl ?_
      intro a15 p15
      have s15 : a15.eval (.tmp 15) = undef := p15.at hs (by decide)
      replace hs := p15.st hs
      refine q_val rfl rfl ?_
      refine g_pick_f rfl (((p15.ne rfl).trans ((p14.ne rfl).trans ((p13.ne rfl).trans (p12.ne rfl)))).trans s11) rfl ?_
      intro a16 p16
      have s16 : a16.eval (.tmp 16) = .bool false := p16.at hs (by decide)
      replace hs := p16.st hs
      refine q_val rfl rfl ?_
      refine g_assign rfl s16 ?_
      intro a17 p17
      have s2 : a17.eval (.tmp 2) = .bool false := p17.at hs (by decide)
      replace hs := p17.st hs
      refine wpList_nil ?_
      refine hK4 _ _ ?_
      clear hK4
      refine wp_ret ?_
      try dsimp only [Exit.then, Exit.inBlock]
      refine ret1 hs Try.results63 (res_tmp s2) ?_
      exact ⟨by unfold pkOk; simp [h1, h2], hB⟩
    · replace s9 := s9.trans (congrArg Value.bool h2)
      replace s9 : a9.eval (.tmp 9) = .bool true := s9
      replace s10 := s10.trans (congrArg Value.bool h2)
      replace s10 : a10.eval (.tmp 10) = .bool true := s10
      replace s11 := s11.trans (congrArg Value.bool h2)
      replace s11 : a11.eval (.tmp 11) = .bool true := s11
      refine q_take rfl rfl s11 rfl ?_
      refine g_field (r := 2) rfl (((p11.ne rfl).trans ((p10.ne rfl).trans ((p9.ne rfl).trans ((p8.ne rfl).trans ((p7.ne rfl).trans ((p6.ne rfl).trans ((p5.ne rfl).trans ((p4.ne rfl).trans (p3.ne rfl))))))))).trans s1) Try.underlying32 rfl (fun w => Try.sizeOf9 w) rfl rfl ?_
      intro a12 p12
      have s12 : a12.eval (.tmp 12) = .pointer (some ⟨q2, 2, none⟩) := p12.at hs (by decide)
      replace hs := p12.st hs
      refine q_take rfl rfl ((p12.ne rfl).trans s11) rfl ?_
      refine g_load rfl s12 Try.isAgg9 (box_cell h_q2 rfl) ?_
      intro a13 p13
      have s13 : a13.eval (.tmp 13) = .string ⟨(x.f2).toArray⟩ := p13.at hs (by decide)
      replace hs := p13.st hs
      refine q_take rfl rfl (((p13.ne rfl).trans (p12.ne rfl)).trans s11) rfl ?_
      refine g_lenS rfl Try.underlying9 s13 ?_
      intro a14 p14
      have s14 : a14.eval (.tmp 14) = .int .i64 (((x.f2).length : Nat) : Int) := p14.at hs (by decide)
      replace hs := p14.st hs
      refine q_take rfl rfl (((p14.ne rfl).trans ((p13.ne rfl).trans (p12.ne rfl))).trans s11) rfl ?_
      refine g_leq rfl s14 rfl ?_
      intro a15 p15
      have s15 : a15.eval (.tmp 15) = .bool (decide ((((x.f2).length : Nat) : Int) ≤ 40)) := p15.at hs (by decide)
      replace hs := p15.st hs
      refine q_val rfl rfl ?_
      refine g_pick_t rfl (((p15.ne rfl).trans ((p14.ne rfl).trans ((p13.ne rfl).trans (p12.ne rfl)))).trans s11) s15 ?_
      intro a16 p16
      have s16 : a16.eval (.tmp 16) = .bool (decide ((((x.f2).length : Nat) : Int) ≤ 40)) := p16.at hs (by decide)
      replace hs := p16.st hs
      refine q_val rfl rfl ?_
      refine g_assign rfl s16 ?_
      intro a17 p17
      have s2 : a17.eval (.tmp 2) = .bool (decide ((((x.f2).length : Nat) : Int) ≤ 40)) := p17.at hs (by decide)
      replace hs := p17.st hs
      refine wpList_nil ?_
      refine hK4 _ _ ?_
      clear hK4
      refine wp_ret ?_
      try dsimp only [Exit.then, Exit.inBlock]
      refine ret1 hs Try.results63 (res_tmp s2) ?_
      exact ⟨by unfold pkOk; simp [h1, h2], hB⟩
set_option maxRecDepth 100000 in
set_option maxHeartbeats 4000000 in
theorem sEncodePacket_any {x : EPacket} (w : World) (hx : Txt x.f2) :
    Calls Try.prog 64 #[.agg #[.int .i64 x.f0, .int .i64 x.f1, .string ⟨(x.f2).toArray⟩]] w fun e w' => e = .returned (.string ⟨(pkEnc x).toArray⟩) ∧ Below w.heap.size w w' := by
  refine enter 21 Try.func64 rfl rfl (Nat.le_of_ble_eq_true rfl) ?_
  intro a0 hs hargs
  have s0 : a0.eval (.tmp 0) = .agg #[.int .i64 x.f0, .int .i64 x.f1, .string ⟨(x.f2).toArray⟩] := hargs 0 _ rfl
  clear hargs
  have hB : Below w.heap.size w w := Below.refl _ _
  refine wp_seq_k fun K1 hK1 => ?_
  refine wp_region_lit ?_
  refine q_val rfl rfl ?_
  refine g_box rfl s0 rfl ?_
  intro q2 w3 N_q2
  have g_q2 : GeB w.heap.size q2 := ⟨Nat.le_trans hB.size N_q2.lo⟩
  replace hB := below_new hB hB.size N_q2
  have h_q2 := N_q2.here
  clear N_q2
  intro a1 p1
  have s1 : a1.eval (.tmp 1) = .pointer (some ⟨q2, 0, none⟩) := p1.at hs (by decide)
  replace hs := p1.st hs
  refine q_val rfl rfl ?_
  refine g_assign rfl rfl ?_
  intro a2 p2
  have s2 : a2.eval (.tmp 2) = .string ⟨#[]⟩ := p2.at hs (by decide)
  replace hs := p2.st hs
  refine wpList_nil ?_
  replace s1 : a2.eval (.tmp 1) = .pointer (some ⟨q2, 0, none⟩) := (p2.ne rfl).trans s1
  refine hK1 _ _ ?_
  clear hK1
  refine wp_seq_k fun K4 hK4 => ?_
  refine wp_seq_k fun K5 hK5 => ?_
  refine wp_region_lit ?_
  refine q_val rfl rfl ?_
  refine g_loadB rfl s1 Try.isAgg32 Try.sizeOf32 rfl h_q2 ?_
  intro a3 p3
  have s3 : a3.eval (.tmp 3) = .agg #[.int .i64 x.f0, .int .i64 x.f1, .string ⟨(x.f2).toArray⟩] := p3.at hs (by decide)
  replace hs := p3.st hs
  refine q_val rfl rfl ?_
  refine g_call rfl rfl Try.call63 (arr1 s3) ?_
  refine (sPacketOk_any _ hx).mono ?_
  rintro e w7 ⟨rfl, hb6⟩
  refine ⟨_, rfl, ?_⟩
  replace h_q2 := keep_below h_q2 hb6
  replace hB := hB.trans (hb6.mono hB.size)
  clear hb6
  intro a4 p4
  have s4 : a4.eval (.tmp 4) = .bool (pkOk x) := p4.at hs (by decide)
  replace hs := p4.st hs
  refine q_val rfl rfl ?_
  refine g_not rfl s4 ?_
  intro a5 p5
  have s5 : a5.eval (.tmp 5) = .bool (!(pkOk x)) := p5.at hs (by decide)
  replace hs := p5.st hs
  refine wpList_nil ?_
  replace s1 : a5.eval (.tmp 1) = .pointer (some ⟨q2, 0, none⟩) := ((p5.ne rfl).trans ((p4.ne rfl).trans (p3.ne rfl))).trans s1
  replace s2 : a5.eval (.tmp 2) = .string ⟨#[]⟩ := ((p5.ne rfl).trans ((p4.ne rfl).trans (p3.ne rfl))).trans s2
  refine hK5 _ _ ?_
  clear hK5
  cases hok : pkOk x
  · replace s5 := s5.trans (congrArg (fun b => Value.bool (!b)) hok)
    replace s5 : a5.eval (.tmp 5) = .bool true := s5
    refine c_true s5 ?_
    refine wp_seq_k fun K8 hK8 => ?_
    refine wp_region_lit ?_
    refine q_val rfl rfl ?_
    refine g_assign rfl rfl ?_
    intro a6 p6
    have s2 : a6.eval (.tmp 2) = .string ⟨#[]⟩ := p6.at hs (by decide)
    replace hs := p6.st hs
    refine wpList_nil ?_
    replace s1 : a6.eval (.tmp 1) = .pointer (some ⟨q2, 0, none⟩) := (p6.ne rfl).trans s1
    refine hK8 _ _ ?_
    clear hK8
    refine wp_ret ?_
    try dsimp only [Exit.then, Exit.inBlock]
    refine ret1 hs Try.results64 (res_tmp s2) ?_
    exact ⟨by unfold pkEnc pkB; rw [hok]; rfl, hB⟩
  · replace s5 := s5.trans (congrArg (fun b => Value.bool (!b)) hok)
    replace s5 : a5.eval (.tmp 5) = .bool false := s5
    refine c_false s5 ?_
    refine wp_skip ?_
    refine hK4 _ _ ?_
    clear hK4
    refine wp_seq_k fun K9 hK9 => ?_
    obtain ⟨⟨hp1, hp2⟩, ⟨hp3, hp4⟩, hp5⟩ := pkOk_parts hok
    refine wp_drawn (n := 21) [] [] [] (fun k_ v_ _wx => match k_ with | 0 => v_ = .pointer (some ⟨q2, 0, none⟩) | 1 => v_ = .int .i64 x.f0 | 2 => v_ = .string ⟨(pw1 x.f0).toArray⟩ | 3 => v_ = .pointer (some ⟨q2, 1, none⟩) | 4 => v_ = .int .i64 x.f1 | 5 => v_ = .string ⟨(pw2 x.f1).toArray⟩ | 6 => v_ = .string ⟨((pw1 x.f0) ++ (pw2 x.f1)).toArray⟩ | 7 => v_ = .pointer (some ⟨q2, 2, none⟩) | 8 => v_ = .string ⟨(x.f2).toArray⟩ | 9 => v_ = .int .i64 (((x.f2).length : Nat) : Int) | 10 => v_ = .string ⟨(pw1 (((x.f2).length : Nat) : Int)).toArray⟩ | 11 => v_ = .string ⟨(((pw1 x.f0) ++ (pw2 x.f1)) ++ (pw1 (((x.f2).length : Nat) : Int))).toArray⟩ | 12 => v_ = .pointer (some ⟨q2, 2, none⟩) | 13 => v_ = .string ⟨(x.f2).toArray⟩ | 14 => v_ = .string ⟨((((pw1 x.f0) ++ (pw2 x.f1)) ++ (pw1 (((x.f2).length : Nat) : Int))) ++ x.f2).toArray⟩ | 15 => v_ = .string ⟨((((pw1 x.f0) ++ (pw2 x.f1)) ++ (pw1 (((x.f2).length : Nat) : Int))) ++ x.f2).toArray⟩ | _ => True) (by kernel_rfl) (by kernel_rfl) (by kernel_rfl) (by kernel_rfl) hs.size ?_ ?_ ?_
    · intro i v wa wb hb hr
      rcases i with _ | _ | _ | _ | _ | _ | _ | _ | _ | _ | _ | _ | _ | _ | _ | _ | i
      · exact hr
      · exact hr
      · exact hr
      · exact hr
      · exact hr
      · exact hr
      · exact hr
      · exact hr
      · exact hr
      · exact hr
      · exact hr
      · exact hr
      · exact hr
      · exact hr
      · exact hr
      · exact hr
      · trivial
    · refine d_step rfl rfl ?_ (d_step rfl rfl ?_ (d_step rfl rfl ?_ (d_step rfl rfl ?_ (d_step rfl rfl ?_ (d_step rfl rfl ?_ (d_step rfl rfl ?_ (d_step rfl rfl ?_ (d_step rfl rfl ?_ (d_step rfl rfl ?_ (d_step rfl rfl ?_ (d_step rfl rfl ?_ (d_step rfl rfl ?_ (d_step rfl rfl ?_ (d_step rfl rfl ?_ (d_step rfl rfl ?_ (d_nil))))))))))))))))
      · intro xv_ wx ρ hρ hwx hd K hK
        have e1 : ρ (.tmp 1) = .pointer (some ⟨q2, 0, none⟩) := (hρ.inn 1 rfl).trans s1
        refine g_field (r := 0) rfl e1 Try.underlying32 rfl (fun w => Try.sizeOf3 w) rfl rfl ?_
        exact hK _ _ (Below.refl _ _) rfl
      · intro xv_ wx ρ hρ hwx hd K hK
        obtain r0 : xv_ 0 = .pointer (some ⟨q2, 0, none⟩) := hd 0 rfl
        have e6 : ρ (.tmp 6) = .pointer (some ⟨q2, 0, none⟩) := (hρ.out 0 6 rfl (by rw [hs.size]; decide) rfl).trans r0
        have h_q2 := keep_below h_q2 hwx
        refine g_load rfl e6 Try.isAgg3 (box_cell h_q2 rfl) ?_
        exact hK _ _ (Below.refl _ _) rfl
      · intro xv_ wx ρ hρ hwx hd K hK
        obtain r1 : xv_ 1 = .int .i64 x.f0 := hd 1 rfl
        have e7 : ρ (.tmp 7) = .int .i64 x.f0 := (hρ.out 1 7 rfl (by rw [hs.size]; decide) rfl).trans r1
        refine g_call rfl (hρ.fn _) Try.call71 (arr2 e7 (hρ.cst _)) ?_
        refine (sPutWord1 _ _ (by omega) (by omega)).mono ?_
        rintro e wy ⟨rfl, hb10⟩
        exact ⟨_, rfl, hK _ _ hb10 rfl⟩
      · intro xv_ wx ρ hρ hwx hd K hK
        have e1 : ρ (.tmp 1) = .pointer (some ⟨q2, 0, none⟩) := (hρ.inn 1 rfl).trans s1
        refine g_field (r := 1) rfl e1 Try.underlying32 rfl (fun w => Try.sizeOf3 w) rfl rfl ?_
        exact hK _ _ (Below.refl _ _) rfl
      · intro xv_ wx ρ hρ hwx hd K hK
        obtain r3 : xv_ 3 = .pointer (some ⟨q2, 1, none⟩) := hd 3 rfl
        have e9 : ρ (.tmp 9) = .pointer (some ⟨q2, 1, none⟩) := (hρ.out 3 9 rfl (by rw [hs.size]; decide) rfl).trans r3
        have h_q2 := keep_below h_q2 hwx
        refine g_load rfl e9 Try.isAgg3 (box_cell h_q2 rfl) ?_
        exact hK _ _ (Below.refl _ _) rfl
      · intro xv_ wx ρ hρ hwx hd K hK
        obtain r4 : xv_ 4 = .int .i64 x.f1 := hd 4 rfl
        have e10 : ρ (.tmp 10) = .int .i64 x.f1 := (hρ.out 4 10 rfl (by rw [hs.size]; decide) rfl).trans r4
        refine g_call rfl (hρ.fn _) Try.call71 (arr2 e10 (hρ.cst _)) ?_
        refine (sPutWord2 _ _ (by omega) (by omega)).mono ?_
        rintro e wy ⟨rfl, hb11⟩
        exact ⟨_, rfl, hK _ _ hb11 rfl⟩
      · intro xv_ wx ρ hρ hwx hd K hK
        obtain r2 : xv_ 2 = .string ⟨(pw1 x.f0).toArray⟩ := hd 2 rfl
        have e8 : ρ (.tmp 8) = .string ⟨(pw1 x.f0).toArray⟩ := (hρ.out 2 8 rfl (by rw [hs.size]; decide) rfl).trans r2
        obtain r5 : xv_ 5 = .string ⟨(pw2 x.f1).toArray⟩ := hd 5 rfl
        have e11 : ρ (.tmp 11) = .string ⟨(pw2 x.f1).toArray⟩ := (hρ.out 5 11 rfl (by rw [hs.size]; decide) rfl).trans r5
        refine g_concat rfl e8 e11 (by simp only [List.length_append, pw1_len, pw2_len, pw3_len]; omega) ?_
        exact hK _ _ (Below.refl _ _) rfl
      · intro xv_ wx ρ hρ hwx hd K hK
        have e1 : ρ (.tmp 1) = .pointer (some ⟨q2, 0, none⟩) := (hρ.inn 1 rfl).trans s1
        refine g_field (r := 2) rfl e1 Try.underlying32 rfl (fun w => Try.sizeOf9 w) rfl rfl ?_
        exact hK _ _ (Below.refl _ _) rfl
      · intro xv_ wx ρ hρ hwx hd K hK
        obtain r7 : xv_ 7 = .pointer (some ⟨q2, 2, none⟩) := hd 7 rfl
        have e13 : ρ (.tmp 13) = .pointer (some ⟨q2, 2, none⟩) := (hρ.out 7 13 rfl (by rw [hs.size]; decide) rfl).trans r7
        have h_q2 := keep_below h_q2 hwx
        refine g_load rfl e13 Try.isAgg9 (box_cell h_q2 rfl) ?_
        exact hK _ _ (Below.refl _ _) rfl
      · intro xv_ wx ρ hρ hwx hd K hK
        obtain r8 : xv_ 8 = .string ⟨(x.f2).toArray⟩ := hd 8 rfl
        have e14 : ρ (.tmp 14) = .string ⟨(x.f2).toArray⟩ := (hρ.out 8 14 rfl (by rw [hs.size]; decide) rfl).trans r8
        refine g_lenS rfl Try.underlying9 e14 ?_
        exact hK _ _ (Below.refl _ _) rfl
      · intro xv_ wx ρ hρ hwx hd K hK
        obtain r9 : xv_ 9 = .int .i64 (((x.f2).length : Nat) : Int) := hd 9 rfl
        have e15 : ρ (.tmp 15) = .int .i64 (((x.f2).length : Nat) : Int) := (hρ.out 9 15 rfl (by rw [hs.size]; decide) rfl).trans r9
        refine g_call rfl (hρ.fn _) Try.call71 (arr2 e15 (hρ.cst _)) ?_
        refine (sPutWord1 _ _ (by omega) (by omega)).mono ?_
        rintro e wy ⟨rfl, hb12⟩
        exact ⟨_, rfl, hK _ _ hb12 rfl⟩
      · intro xv_ wx ρ hρ hwx hd K hK
        obtain r6 : xv_ 6 = .string ⟨((pw1 x.f0) ++ (pw2 x.f1)).toArray⟩ := hd 6 rfl
        have e12 : ρ (.tmp 12) = .string ⟨((pw1 x.f0) ++ (pw2 x.f1)).toArray⟩ := (hρ.out 6 12 rfl (by rw [hs.size]; decide) rfl).trans r6
        obtain r10 : xv_ 10 = .string ⟨(pw1 (((x.f2).length : Nat) : Int)).toArray⟩ := hd 10 rfl
        have e16 : ρ (.tmp 16) = .string ⟨(pw1 (((x.f2).length : Nat) : Int)).toArray⟩ := (hρ.out 10 16 rfl (by rw [hs.size]; decide) rfl).trans r10
        refine g_concat rfl e12 e16 (by simp only [List.length_append, pw1_len, pw2_len, pw3_len]; omega) ?_
        exact hK _ _ (Below.refl _ _) rfl
      · intro xv_ wx ρ hρ hwx hd K hK
        have e1 : ρ (.tmp 1) = .pointer (some ⟨q2, 0, none⟩) := (hρ.inn 1 rfl).trans s1
        refine g_field (r := 2) rfl e1 Try.underlying32 rfl (fun w => Try.sizeOf9 w) rfl rfl ?_
        exact hK _ _ (Below.refl _ _) rfl
      · intro xv_ wx ρ hρ hwx hd K hK
        obtain r12 : xv_ 12 = .pointer (some ⟨q2, 2, none⟩) := hd 12 rfl
        have e18 : ρ (.tmp 18) = .pointer (some ⟨q2, 2, none⟩) := (hρ.out 12 18 rfl (by rw [hs.size]; decide) rfl).trans r12
        have h_q2 := keep_below h_q2 hwx
        refine g_load rfl e18 Try.isAgg9 (box_cell h_q2 rfl) ?_
        exact hK _ _ (Below.refl _ _) rfl
      · intro xv_ wx ρ hρ hwx hd K hK
        obtain r11 : xv_ 11 = .string ⟨(((pw1 x.f0) ++ (pw2 x.f1)) ++ (pw1 (((x.f2).length : Nat) : Int))).toArray⟩ := hd 11 rfl
        have e17 : ρ (.tmp 17) = .string ⟨(((pw1 x.f0) ++ (pw2 x.f1)) ++ (pw1 (((x.f2).length : Nat) : Int))).toArray⟩ := (hρ.out 11 17 rfl (by rw [hs.size]; decide) rfl).trans r11
        obtain r13 : xv_ 13 = .string ⟨(x.f2).toArray⟩ := hd 13 rfl
        have e19 : ρ (.tmp 19) = .string ⟨(x.f2).toArray⟩ := (hρ.out 13 19 rfl (by rw [hs.size]; decide) rfl).trans r13
        refine g_concat rfl e17 e19 (by simp only [List.length_append, pw1_len, pw2_len, pw3_len]; omega) ?_
        exact hK _ _ (Below.refl _ _) rfl
      · intro xv_ wx ρ hρ hwx hd K hK
        obtain r14 : xv_ 14 = .string ⟨((((pw1 x.f0) ++ (pw2 x.f1)) ++ (pw1 (((x.f2).length : Nat) : Int))) ++ x.f2).toArray⟩ := hd 14 rfl
        have e20 : ρ (.tmp 20) = .string ⟨((((pw1 x.f0) ++ (pw2 x.f1)) ++ (pw1 (((x.f2).length : Nat) : Int))) ++ x.f2).toArray⟩ := (hρ.out 14 20 rfl (by rw [hs.size]; decide) rfl).trans r14
        refine g_assign rfl e20 ?_
        exact hK _ _ (Below.refl _ _) rfl
    · intro x0_ w13 hb_w13 hr0
      obtain r0 : x0_ 0 = .pointer (some ⟨q2, 0, none⟩) := hr0 0 (by decide) rfl rfl
      obtain r1 : x0_ 1 = .int .i64 x.f0 := hr0 1 (by decide) rfl rfl
      obtain r2 : x0_ 2 = .string ⟨(pw1 x.f0).toArray⟩ := hr0 2 (by decide) rfl rfl
      obtain r3 : x0_ 3 = .pointer (some ⟨q2, 1, none⟩) := hr0 3 (by decide) rfl rfl
      obtain r4 : x0_ 4 = .int .i64 x.f1 := hr0 4 (by decide) rfl rfl
      obtain r5 : x0_ 5 = .string ⟨(pw2 x.f1).toArray⟩ := hr0 5 (by decide) rfl rfl
      obtain r6 : x0_ 6 = .string ⟨((pw1 x.f0) ++ (pw2 x.f1)).toArray⟩ := hr0 6 (by decide) rfl rfl
      obtain r7 : x0_ 7 = .pointer (some ⟨q2, 2, none⟩) := hr0 7 (by decide) rfl rfl
      obtain r8 : x0_ 8 = .string ⟨(x.f2).toArray⟩ := hr0 8 (by decide) rfl rfl
      obtain r9 : x0_ 9 = .int .i64 (((x.f2).length : Nat) : Int) := hr0 9 (by decide) rfl rfl
      obtain r10 : x0_ 10 = .string ⟨(pw1 (((x.f2).length : Nat) : Int)).toArray⟩ := hr0 10 (by decide) rfl rfl
      obtain r11 : x0_ 11 = .string ⟨(((pw1 x.f0) ++ (pw2 x.f1)) ++ (pw1 (((x.f2).length : Nat) : Int))).toArray⟩ := hr0 11 (by decide) rfl rfl
      obtain r12 : x0_ 12 = .pointer (some ⟨q2, 2, none⟩) := hr0 12 (by decide) rfl rfl
      obtain r13 : x0_ 13 = .string ⟨(x.f2).toArray⟩ := hr0 13 (by decide) rfl rfl
      obtain r14 : x0_ 14 = .string ⟨((((pw1 x.f0) ++ (pw2 x.f1)) ++ (pw1 (((x.f2).length : Nat) : Int))) ++ x.f2).toArray⟩ := hr0 14 (by decide) rfl rfl
      obtain r15 : x0_ 15 = .string ⟨((((pw1 x.f0) ++ (pw2 x.f1)) ++ (pw1 (((x.f2).length : Nat) : Int))) ++ x.f2).toArray⟩ := hr0 15 (by decide) rfl rfl
      clear hr0
      replace h_q2 := keep_below h_q2 hb_w13
      replace hB := hB.trans (hb_w13.mono hB.size)
      clear hb_w13
      intro xv_ a6 hρ hsz hdf qx_ ql_ qk_ qlk_
      have s2 : a6.eval (.tmp 2) = .string ⟨((((pw1 x.f0) ++ (pw2 x.f1)) ++ (pw1 (((x.f2).length : Nat) : Int))) ++ x.f2).toArray⟩ := (hρ.out 15 2 rfl (by rw [hs.size]; decide)).trans ((qx_ 15 (by decide) rfl rfl).trans r15)
      replace hs : St 21 a6 := ⟨hsz.trans hs.size, hdf.trans hs.nodef⟩
      clear hρ hsz hdf qx_ ql_ qk_ qlk_
      refine hK9 _ _ ?_
      clear hK9
      refine wp_ret ?_
      try dsimp only [Exit.then, Exit.inBlock]
      refine ret1 hs Try.results64 (res_tmp s2) ?_
      exact ⟨by unfold pkEnc pkB; rw [hok]; rfl, hB⟩
end Go.Proofs.Ytmcgmiapbdoocaa
