/- Contracts: frames and unpackers that are valid, a part that was lost, one packet out of a text. No condition. -/
import Derived.Test.YtmcgmiapbdoocaaFrmEnd
import Derived.Test.YtmcgmiapbdoocaaFlowTxt
import Derived.Test.YtmcgmiapbdoocaaGetW
namespace Go.Proofs.Ytmcgmiapbdoocaa
open Go.RowKit

theorem nth_drop (s : List UInt8) (k j : Nat) : nth (s.drop k) ((j : Nat) : Int) = nth s ((k + j : Nat) : Int) := by
  unfold nth
  simp only [Int.toNat_natCast, List.getD_eq_getElem?_getD, List.getElem?_drop]
def dpX (t : List UInt8) : EPacket := (dec0 t).getD ⟨0, 0, []⟩
def dpN (t : List UInt8) : Nat := match dec0 t with
  | some x => 4 + x.f2.length
  | none => 0
def dpO (t : List UInt8) : Bool := (dec0 t).isSome
theorem dp_some {t : List UInt8} {x : EPacket} (h : dec0 t = some x) : dpX t = x ∧ dpN t = 4 + x.f2.length ∧ dpO t = true := by
  unfold dpX dpN dpO
  rw [h]
  exact ⟨rfl, rfl, rfl⟩
theorem dp_none {t : List UInt8} (h : dec0 t = none) : dpX t = ⟨0, 0, []⟩ ∧ dpN t = 0 ∧ dpO t = false := by
  unfold dpX dpN dpO
  rw [h]
  exact ⟨rfl, rfl, rfl⟩
theorem dpO_true {t : List UInt8} (h : dpO t = true) : dec0 t = some (dpX t) ∧ dpN t = 4 + (dpX t).f2.length ∧ 4 + (dpX t).f2.length ≤ t.length := by
  cases hd : dec0 t with
  | none => rw [(dp_none hd).2.2] at h; cases h
  | some x =>
    have hl := dec0_len hd
    obtain ⟨h1, h2, _⟩ := dp_some hd
    exact ⟨by rw [h1], by rw [h2, h1], by rw [h1]; exact hl⟩
theorem dpO_false {t : List UInt8} (h : dpO t = false) : dec0 t = none := by
  cases hd : dec0 t with
  | none => rfl
  | some x => rw [(dp_some hd).2.2] at h; cases h
theorem dec0_at {s : List UInt8} {k : Nat} (hk : k + 4 ≤ s.length) : dec0 (s.drop k) = if nth s ((k : Nat) : Int) ≤ 15 ∧ nth s ((k + 3 : Nat) : Int) ≤ 40 ∧ nth s ((k + 3 : Nat) : Int) ≤ ((s.length : Nat) : Int) - ((k : Nat) : Int) - 4 then some ⟨nth s ((k : Nat) : Int), nth s ((k + 1 : Nat) : Int) * 256 + nth s (((k + 1 : Nat) : Int) + 1), (s.drop (k + 4)).take (nth s ((k + 3 : Nat) : Int)).toNat⟩ else none := by
  have e0 := nth_drop s k 0
  have e1 := nth_drop s k 1
  have e2 := nth_drop s k 2
  have e3 := nth_drop s k 3
  unfold dec0
  rw [show nth (s.drop k) 0 = nth s ((k : Nat) : Int) from e0, show nth (s.drop k) 1 = nth s ((k + 1 : Nat) : Int) from e1, show nth (s.drop k) 2 = nth s (((k + 1 : Nat) : Int) + 1) from by rw [show (((k + 1 : Nat) : Int) + 1) = ((k + 2 : Nat) : Int) from by omega]; exact e2, show nth (s.drop k) 3 = nth s ((k + 3 : Nat) : Int) from e3, List.length_drop, List.drop_drop]
  have hc : (4 ≤ s.length - k ∧ nth s ((k : Nat) : Int) ≤ 15 ∧ nth s ((k + 3 : Nat) : Int) ≤ 40 ∧ nth s ((k + 3 : Nat) : Int) ≤ ((s.length - k : Nat) : Int) - 4) ↔ (nth s ((k : Nat) : Int) ≤ 15 ∧ nth s ((k + 3 : Nat) : Int) ≤ 40 ∧ nth s ((k + 3 : Nat) : Int) ≤ ((s.length : Nat) : Int) - ((k : Nat) : Int) - 4) := by omega
  by_cases h : nth s ((k : Nat) : Int) ≤ 15 ∧ nth s ((k + 3 : Nat) : Int) ≤ 40 ∧ nth s ((k + 3 : Nat) : Int) ≤ ((s.length : Nat) : Int) - ((k : Nat) : Int) - 4
  · rw [if_pos h, if_pos (hc.2 h)]
  · rw [if_neg h, if_neg (fun k => h (hc.1 k))]
theorem dec0_short {s : List UInt8} {k : Nat} (hk : s.length < k + 4) : dec0 (s.drop k) = none := by
  unfold dec0
  rw [if_neg (by rw [List.length_drop]; omega)]
set_option maxRecDepth 100000 in
set_option maxHeartbeats 4000000 in
theorem frameOk_any {x : EFrame} (w : World) (hx : Txt x.f3) :
    Calls Try.prog 30 #[.agg #[.int .i64 x.f0, .int .i64 x.f1, .int .i64 x.f2, .string ⟨(x.f3).toArray⟩]] w fun e w' => e = .returned (.bool (frOk x)) ∧ Below w.heap.size w w' := by
  unfold Txt at hx
  refine enter 29 Try.func30 rfl rfl (Nat.le_of_ble_eq_true rfl) ?_
  intro a0 hs hargs
  have s0 : a0.eval (.tmp 0) = .agg #[.int .i64 x.f0, .int .i64 x.f1, .int .i64 x.f2, .string ⟨(x.f3).toArray⟩] := hargs 0 _ rfl
  clear hargs
  have hB : Below w.heap.size w w := Below.refl _ _
  refine wp_seq_k fun K1 hK1 => ?_
  refine wp_region_lit ?_
  refine q_val rfl rfl ?_
  refine g_box rfl s0 rfl ?_
  intro q2 w3 N_q2
  have g_q2 : GeB w.heap.size q2 := ⟨Nat.le_trans hB.size N_q2.lo⟩
  replace hB := below_new hB hB.size N_q2
  have h_q2 := N_q2.here
  clear N_q2
  intro a1 p1
  have s1 : a1.eval (.tmp 1) = .pointer (some ⟨q2, 0, none⟩) := p1.at hs (by decide)
  replace hs := p1.st hs
  refine q_val rfl rfl ?_
  refine g_assign rfl rfl ?_
  intro a2 p2
  have s2 : a2.eval (.tmp 2) = .bool false := p2.at hs (by decide)
  replace hs := p2.st hs
  refine wpList_nil ?_
  replace s1 : a2.eval (.tmp 1) = .pointer (some ⟨q2, 0, none⟩) := (p2.ne rfl).trans s1
  refine hK1 _ _ ?_
  clear hK1
  refine wp_seq_k fun K4 hK4 => ?_
  refine wp_region_lit ?_
  refine q_val rfl rfl ?_
  refine g_field (r := 2) rfl s1 Try.underlying40 rfl (fun w => Try.sizeOf3 w) rfl rfl ?_
  intro a3 p3
  have s4 : a3.eval (.tmp 4) = .pointer (some ⟨q2, 2, none⟩) := p3.at hs (by decide)
  replace hs := p3.st hs
  refine q_val rfl rfl ?_
  refine g_load rfl s4 Try.isAgg3 (box_cell h_q2 rfl) ?_
  intro a4 p4
  have s5 : a4.eval (.tmp 5) = .int .i64 x.f2 := p4.at hs (by decide)
  replace hs := p4.st hs
  refine q_val rfl rfl ?_
  refine g_call rfl rfl Try.call38 (arr3 s5 rfl rfl) ?_
  refine (between_any _ _ _ _).mono ?_
  rintro e w' ⟨rfl, rfl⟩
  refine ⟨_, rfl, ?_⟩
  intro a5 p5
  have s6 : a5.eval (.tmp 6) = .bool (inB x.f2 0 23) := p5.at hs (by decide)
  replace hs := p5.st hs
  refine q_val rfl rfl ?_
  refine g_move rfl s6 ?_
  intro a6 p6
  have s7 : a6.eval (.tmp 7) = .bool (inB x.f2 0 23) := p6.at hs (by decide)
  replace hs := p6.st hs
  cases hc5 : inB x.f2 0 23
  · replace s6 := s6.trans (congrArg Value.bool hc5)
    replace s6 : a5.eval (.tmp 6) = .bool false := s6
    replace s7 := s7.trans (congrArg Value.bool hc5)
    replace s7 : a6.eval (.tmp 7) = .bool false := s7
    refine q_take rfl rfl s7 rfl ?_
    refine g_field (r := 2) rfl (((p6.ne rfl).trans ((p5.ne rfl).trans ((p4.ne rfl).trans (p3.ne rfl)))).trans s1) Try.underlying40 rfl (fun w => Try.sizeOf3 w) rfl rfl ?_
    intro a7 p7
    have s8 : a7.eval (.tmp 8) = .pointer (some ⟨q2, 2, none⟩) := p7.at hs (by decide)
    replace hs := p7.st hs
    refine q_take rfl rfl ((p7.ne rfl).trans s7) rfl ?_
    refine g_load rfl s8 Try.isAgg3 (box_cell h_q2 rfl) ?_
    intro a8 p8
    have s9 : a8.eval (.tmp 9) = .int .i64 x.f2 := p8.at hs (by decide)
    replace hs := p8.st hs
    refine q_take rfl rfl (((p8.ne rfl).trans (p7.ne rfl)).trans s7) rfl ?_
    refine g_eql rfl s9 rfl ?_
    intro a9 p9
    have s10 : a9.eval (.tmp 10) = .bool (decide (x.f2 = 255)) := p9.at hs (by decide)
    replace hs := p9.st hs
    refine q_val rfl rfl ?_
    refine g_pick_f rfl (((p9.ne rfl).trans ((p8.ne rfl).trans (p7.ne rfl))).trans s7) s10 ?_
    intro a10 p10
    have s11 : a10.eval (.tmp 11) = .bool (decide (x.f2 = 255)) := p10.at hs (by decide)
    replace hs := p10.st hs
    refine q_val rfl rfl ?_
    refine g_assign rfl s11 ?_
    intro a11 p11
    have s3 : a11.eval (.tmp 3) = .bool (decide (x.f2 = 255)) := p11.at hs (by decide)
    replace hs := p11.st hs
    refine wpList_nil ?_
    replace s1 : a11.eval (.tmp 1) = .pointer (some ⟨q2, 0, none⟩) := ((p11.ne rfl).trans ((p10.ne rfl).trans ((p9.ne rfl).trans ((p8.ne rfl).trans ((p7.ne rfl).trans ((p6.ne rfl).trans ((p5.ne rfl).trans ((p4.ne rfl).trans (p3.ne rfl))))))))).trans s1
    replace s2 : a11.eval (.tmp 2) = .bool false := ((p11.ne rfl).trans ((p10.ne rfl).trans ((p9.ne rfl).trans ((p8.ne rfl).trans ((p7.ne rfl).trans ((p6.ne rfl).trans ((p5.ne rfl).trans ((p4.ne rfl).trans (p3.ne rfl))))))))).trans s2
    refine hK4 _ _ ?_
    clear hK4
    refine wp_seq_k fun K6 hK6 => ?_
    refine wp_region_lit ?_
    refine q_val rfl rfl ?_
    refine g_field (r := 0) rfl s1 Try.underlying40 rfl (fun w => Try.sizeOf3 w) rfl rfl ?_
    intro a12 p12
    have s12 : a12.eval (.tmp 12) = .pointer (some ⟨q2, 0, none⟩) := p12.at hs (by decide)
    replace hs := p12.st hs
    refine q_val rfl rfl ?_
    refine g_load rfl s12 Try.isAgg3 (box_cell h_q2 rfl) ?_
    intro a13 p13
    have s13 : a13.eval (.tmp 13) = .int .i64 x.f0 := p13.at hs (by decide)
    replace hs := p13.st hs
    refine q_val rfl rfl ?_
    refine g_call rfl rfl Try.call38 (arr3 s13 rfl rfl) ?_
    refine (between_any _ _ _ _).mono ?_
    rintro e w' ⟨rfl, rfl⟩
    refine ⟨_, rfl, ?_⟩
    intro a14 p14
    have s14 : a14.eval (.tmp 14) = .bool (inB x.f0 0 2) := p14.at hs (by decide)
    replace hs := p14.st hs
    refine q_val rfl rfl ?_
    refine g_move rfl s14 ?_
    intro a15 p15
    have s15 : a15.eval (.tmp 15) = .bool (inB x.f0 0 2) := p15.at hs (by decide)
    replace hs := p15.st hs
    cases hc7 : inB x.f0 0 2
    · replace s14 := s14.trans (congrArg Value.bool hc7)
      replace s14 : a14.eval (.tmp 14) = .bool false := s14
      replace s15 := s15.trans (congrArg Value.bool hc7)
      replace s15 : a15.eval (.tmp 15) = .bool false := s15
      refine q_skip rfl rfl s15 rfl ?_
      intro a16 p16
      have s16 : a16.eval (.tmp 16) = undef := p16.at hs (by decide)
      replace hs := p16.st hs
      refine q_skip rfl rfl ((p16.ne rfl).trans s15) rfl ?_
      intro a17 p17
      have s17 : a17.eval (.tmp 17) = undef := p17.at hs (by decide)
      replace hs := p17.st hs
      refine q_skip rfl rfl (((p17.ne rfl).trans (p16.ne rfl)).trans s15) rfl ?_
      intro a18 p18
      have s18 : a18.eval (.tmp 18) = undef := p18.at hs (by decide)
      replace hs := p18.st hs
      refine q_val rfl rfl ?_
      refine g_pick_f rfl (((p18.ne rfl).trans ((p17.ne rfl).trans (p16.ne rfl))).trans s15) rfl ?_
      intro a19 p19
      have s19 : a19.eval (.tmp 19) = .bool false := p19.at hs (by decide)
      replace hs := p19.st hs
      refine q_val rfl rfl ?_
      refine g_move rfl s19 ?_
      intro a20 p20
      have s20 : a20.eval (.tmp 20) = .bool false := p20.at hs (by decide)
      replace hs := p20.st hs
      refine q_skip rfl rfl s20 rfl ?_
      intro a21 p21
      have s21 : a21.eval (.tmp 21) = undef := p21.at hs (by decide)
      replace hs := p21.st hs
      refine q_val rfl rfl ?_
      refine g_pick_f rfl ((p21.ne rfl).trans s20) rfl ?_
      intro a22 p22
      have s22 : a22.eval (.tmp 22) = .bool false := p22.at hs (by decide)
      replace hs := p22.st hs
      refine q_val rfl rfl ?_
      refine g_move rfl s22 ?_
      intro a23 p23
      have s23 : a23.eval (.tmp 23) = .bool false := p23.at hs (by decide)
      replace hs := p23.st hs
      refine q_skip rfl rfl s23 rfl ?_
      intro a24 p24
      have s24 : a24.eval (.tmp 24) = undef := p24.at hs (by decide)
      replace hs := p24.st hs
      refine q_skip rfl rfl ((p24.ne rfl).trans s23) rfl ?_
      intro a25 p25
      have s25 : a25.eval (.tmp 25) = undef := p25.at hs (by decide)
      replace hs := p25.st hs
      refine q_skip rfl rfl (((p25.ne rfl).trans (p24.ne rfl)).trans s23) rfl ?_
      intro a26 p26
      have s26 : a26.eval (.tmp 26) = undef := p26.at hs (by decide)
      replace hs := p26.st hs
      refine q_skip rfl rfl (((p26.ne rfl).trans ((p25.ne rfl).trans (p24.ne rfl))).trans s23) rfl ?_
      intro a27 p27
      have s27 : a27.eval (.tmp 27) = undef := p27.at hs (by decide)
      replace hs := p27.st hs
      refine q_val rfl rfl ?_
      refine g_pick_f rfl (((p27.ne rfl).trans ((p26.ne rfl).trans ((p25.ne rfl).trans (p24.ne rfl)))).trans s23) rfl ?_
      intro a28 p28
      have s28 : a28.eval (.tmp 28) = .bool false := p28.at hs (by decide)
      replace hs := p28.st hs
      refine q_val rfl rfl ?_
      refine g_assign rfl s28 ?_
      intro a29 p29
      have s2 : a29.eval (.tmp 2) = .bool false := p29.at hs (by decide)
      replace hs := p29.st hs
      refine wpList_nil ?_
      refine hK6 _ _ ?_
      clear hK6
      refine wp_ret ?_
      try dsimp only [Exit.then, Exit.inBlock]
      refine ret1 hs Try.results30 (res_tmp s2) ?_
      exact ⟨by unfold frOk; simp [hc5, hc7], hB⟩
    · replace s14 := s14.trans (congrArg Value.bool hc7)
      replace s14 : a14.eval (.tmp 14) = .bool true := s14
      replace s15 := s15.trans (congrArg Value.bool hc7)
      replace s15 : a15.eval (.tmp 15) = .bool true := s15
      refine q_take rfl rfl s15 rfl ?_
      refine g_field (r := 1) rfl (((p15.ne rfl).trans ((p14.ne rfl).trans ((p13.ne rfl).trans (p12.ne rfl)))).trans s1) Try.underlying40 rfl (fun w => Try.sizeOf3 w) rfl rfl ?_
      intro a16 p16
      have s16 : a16.eval (.tmp 16) = .pointer (some ⟨q2, 1, none⟩) := p16.at hs (by decide)
      replace hs := p16.st hs
      refine q_take rfl rfl ((p16.ne rfl).trans s15) rfl ?_
      refine g_load rfl s16 Try.isAgg3 (box_cell h_q2 rfl) ?_
      intro a17 p17
      have s17 : a17.eval (.tmp 17) = .int .i64 x.f1 := p17.at hs (by decide)
      replace hs := p17.st hs
      refine q_take rfl rfl (((p17.ne rfl).trans (p16.ne rfl)).trans s15) rfl ?_
      refine g_call rfl rfl Try.call38 (arr3 s17 rfl rfl) ?_
      refine (between_any _ _ _ _).mono ?_
      rintro e w' ⟨rfl, rfl⟩
      refine ⟨_, rfl, ?_⟩
      intro a18 p18
      have s18 : a18.eval (.tmp 18) = .bool (inB x.f1 0 255) := p18.at hs (by decide)
      replace hs := p18.st hs
      refine q_val rfl rfl ?_
      refine g_pick_t rfl (((p18.ne rfl).trans ((p17.ne rfl).trans (p16.ne rfl))).trans s15) s18 ?_
      intro a19 p19
      have s19 : a19.eval (.tmp 19) = .bool (inB x.f1 0 255) := p19.at hs (by decide)
      replace hs := p19.st hs
      refine q_val rfl rfl ?_
      refine g_move rfl s19 ?_
      intro a20 p20
      have s20 : a20.eval (.tmp 20) = .bool (inB x.f1 0 255) := p20.at hs (by decide)
      replace hs := p20.st hs
      cases hc8 : inB x.f1 0 255
      · replace s18 := s18.trans (congrArg Value.bool hc8)
        replace s18 : a18.eval (.tmp 18) = .bool false := s18
        replace s19 := s19.trans (congrArg Value.bool hc8)
        replace s19 : a19.eval (.tmp 19) = .bool false := s19
        replace s20 := s20.trans (congrArg Value.bool hc8)
        replace s20 : a20.eval (.tmp 20) = .bool false := s20
        refine q_skip rfl rfl s20 rfl ?_
        intro a21 p21
        have s21 : a21.eval (.tmp 21) = undef := p21.at hs (by decide)
        replace hs := p21.st hs
        refine q_val rfl rfl ?_
        refine g_pick_f rfl ((p21.ne rfl).trans s20) rfl ?_
        intro a22 p22
        have s22 : a22.eval (.tmp 22) = .bool false := p22.at hs (by decide)
        replace hs := p22.st hs
        refine q_val rfl rfl ?_
        refine g_move rfl s22 ?_
        intro a23 p23
        have s23 : a23.eval (.tmp 23) = .bool false := p23.at hs (by decide)
        replace hs := p23.st hs
        refine q_skip rfl rfl s23 rfl ?_
        intro a24 p24
        have s24 : a24.eval (.tmp 24) = undef := p24.at hs (by decide)
        replace hs := p24.st hs
        refine q_skip rfl rfl ((p24.ne rfl).trans s23) rfl ?_
        intro a25 p25
        have s25 : a25.eval (.tmp 25) = undef := p25.at hs (by decide)
        replace hs := p25.st hs
        refine q_skip rfl rfl (((p25.ne rfl).trans (p24.ne rfl)).trans s23) rfl ?_
        intro a26 p26
        have s26 : a26.eval (.tmp 26) = undef := p26.at hs (by decide)
        replace hs := p26.st hs
        refine q_skip rfl rfl (((p26.ne rfl).trans ((p25.ne rfl).trans (p24.ne rfl))).trans s23) rfl ?_
        intro a27 p27
        have s27 : a27.eval (.tmp 27) = undef := p27.at hs (by decide)
        replace hs := p27.st hs
        refine q_val rfl rfl ?_
        refine g_pick_f rfl (((p27.ne rfl).trans ((p26.ne rfl).trans ((p25.ne rfl).trans (p24.ne rfl)))).trans s23) rfl ?_
        intro a28 p28
        have s28 : a28.eval (.tmp 28) = .bool false := p28.at hs (by decide)
        replace hs := p28.st hs
        refine q_val rfl rfl ?_
        refine g_assign rfl s28 ?_
        intro a29 p29
        have s2 : a29.eval (.tmp 2) = .bool false := p29.at hs (by decide)
        replace hs := p29.st hs
        refine wpList_nil ?_
        refine hK6 _ _ ?_
        clear hK6
        refine wp_ret ?_
        try dsimp only [Exit.then, Exit.inBlock]
        refine ret1 hs Try.results30 (res_tmp s2) ?_
        exact ⟨by unfold frOk; simp [hc5, hc7, hc8], hB⟩
      · replace s18 := s18.trans (congrArg Value.bool hc8)
        replace s18 : a18.eval (.tmp 18) = .bool true := s18
        replace s19 := s19.trans (congrArg Value.bool hc8)
        replace s19 : a19.eval (.tmp 19) = .bool true := s19
        replace s20 := s20.trans (congrArg Value.bool hc8)
        replace s20 : a20.eval (.tmp 20) = .bool true := s20
        refine q_take rfl rfl s20 rfl ?_
        refine g_move rfl (((p20.ne rfl).trans ((p19.ne rfl).trans ((p18.ne rfl).trans ((p17.ne rfl).trans ((p16.ne rfl).trans ((p15.ne rfl).trans ((p14.ne rfl).trans ((p13.ne rfl).trans (p12.ne rfl))))))))).trans s3) ?_
        intro a21 p21
        have s21 : a21.eval (.tmp 21) = .bool (decide (x.f2 = 255)) := p21.at hs (by decide)
        replace hs := p21.st hs
        refine q_val rfl rfl ?_
        refine g_pick_t rfl ((p21.ne rfl).trans s20) s21 ?_
        intro a22 p22
        have s22 : a22.eval (.tmp 22) = .bool (decide (x.f2 = 255)) := p22.at hs (by decide)
        replace hs := p22.st hs
        refine q_val rfl rfl ?_
        refine g_move rfl s22 ?_
        intro a23 p23
        have s23 : a23.eval (.tmp 23) = .bool (decide (x.f2 = 255)) := p23.at hs (by decide)
        replace hs := p23.st hs
        by_cases hc9 : x.f2 = 255
        · replace s3 := s3.trans (congrArg Value.bool (decide_eq_true hc9))
          replace s3 : a11.eval (.tmp 3) = .bool true := s3
          replace s21 := s21.trans (congrArg Value.bool (decide_eq_true hc9))
          replace s21 : a21.eval (.tmp 21) = .bool true := s21
          replace s22 := s22.trans (congrArg Value.bool (decide_eq_true hc9))
          replace s22 : a22.eval (.tmp 22) = .bool true := s22
          replace s23 := s23.trans (congrArg Value.bool (decide_eq_true hc9))
          replace s23 : a23.eval (.tmp 23) = .bool true := s23
          refine q_take rfl rfl s23 rfl ?_
          refine g_field (r := 3) rfl (((p23.ne rfl).trans ((p22.ne rfl).trans ((p21.ne rfl).trans ((p20.ne rfl).trans ((p19.ne rfl).trans ((p18.ne rfl).trans ((p17.ne rfl).trans ((p16.ne rfl).trans ((p15.ne rfl).trans ((p14.ne rfl).trans ((p13.ne rfl).trans (p12.ne rfl)))))))))))).trans s1) Try.underlying40 rfl (fun w => Try.sizeOf9 w) rfl rfl ?_
          intro a24 p24
          have s24 : a24.eval (.tmp 24) = .pointer (some ⟨q2, 3, none⟩) := p24.at hs (by decide)
          replace hs := p24.st hs
          refine q_take rfl rfl ((p24.ne rfl).trans s23) rfl ?_
          refine g_load rfl s24 Try.isAgg9 (box_cell h_q2 rfl) ?_
          intro a25 p25
          have s25 : a25.eval (.tmp 25) = .string ⟨(x.f3).toArray⟩ := p25.at hs (by decide)
          replace hs := p25.st hs
          refine q_take rfl rfl (((p25.ne rfl).trans (p24.ne rfl)).trans s23) rfl ?_
          refine g_lenS rfl Try.underlying9 s25 ?_
          intro a26 p26
          have s26 : a26.eval (.tmp 26) = .int .i64 (((x.f3).length : Nat) : Int) := p26.at hs (by decide)
          replace hs := p26.st hs
          refine q_take rfl rfl (((p26.ne rfl).trans ((p25.ne rfl).trans (p24.ne rfl))).trans s23) rfl ?_
          refine g_eql rfl s26 rfl ?_
          intro a27 p27
          have s27 : a27.eval (.tmp 27) = .bool (decide ((((x.f3).length : Nat) : Int) = 24)) := p27.at hs (by decide)
          replace hs := p27.st hs
          refine q_val rfl rfl ?_
          refine g_pick_t rfl (((p27.ne rfl).trans ((p26.ne rfl).trans ((p25.ne rfl).trans (p24.ne rfl)))).trans s23) s27 ?_
          intro a28 p28
          have s28 : a28.eval (.tmp 28) = .bool (decide ((((x.f3).length : Nat) : Int) = 24)) := p28.at hs (by decide)
          replace hs := p28.st hs
          refine q_val rfl rfl ?_
          refine g_assign rfl s28 ?_
          intro a29 p29
          have s2 : a29.eval (.tmp 2) = .bool (decide ((((x.f3).length : Nat) : Int) = 24)) := p29.at hs (by decide)
          replace hs := p29.st hs
          refine wpList_nil ?_
          refine hK6 _ _ ?_
          clear hK6
          refine wp_ret ?_
          try dsimp only [Exit.then, Exit.inBlock]
          refine ret1 hs Try.results30 (res_tmp s2) ?_
          exact ⟨by unfold frOk; simp [hc5, hc7, hc8, decide_eq_true hc9], hB⟩
        · replace s3 := s3.trans (congrArg Value.bool (decide_eq_false hc9))
          replace s3 : a11.eval (.tmp 3) = .bool false := s3
          replace s21 := s21.trans (congrArg Value.bool (decide_eq_false hc9))
          replace s21 : a21.eval (.tmp 21) = .bool false := s21
          replace s22 := s22.trans (congrArg Value.bool (decide_eq_false hc9))
          replace s22 : a22.eval (.tmp 22) = .bool false := s22
          replace s23 := s23.trans (congrArg Value.bool (decide_eq_false hc9))
          replace s23 : a23.eval (.tmp 23) = .bool false := s23
          refine q_skip rfl rfl s23 rfl ?_
          intro a24 p24
          have s24 : a24.eval (.tmp 24) = undef := p24.at hs (by decide)
          replace hs := p24.st hs
          refine q_skip rfl rfl ((p24.ne rfl).trans s23) rfl ?_
          intro a25 p25
          have s25 : a25.eval (.tmp 25) = undef := p25.at hs (by decide)
          replace hs := p25.st hs
          refine q_skip rfl rfl (((p25.ne rfl).trans (p24.ne rfl)).trans s23) rfl ?_
          intro a26 p26
          have s26 : a26.eval (.tmp 26) = undef := p26.at hs (by decide)
          replace hs := p26.st hs
          refine q_skip rfl rfl (((p26.ne rfl).trans ((p25.ne rfl).trans (p24.ne rfl))).trans s23) rfl ?_
          intro a27 p27
          have s27 : a27.eval (.tmp 27) = undef := p27.at hs (by decide)
          replace hs := p27.st hs
          refine q_val rfl rfl ?_
          refine g_pick_f rfl (((p27.ne rfl).trans ((p26.ne rfl).trans ((p25.ne rfl).trans (p24.ne rfl)))).trans s23) rfl ?_
          intro a28 p28
          have s28 : a28.eval (.tmp 28) = .bool false := p28.at hs (by decide)
          replace hs := p28.st hs
          refine q_val rfl rfl ?_
          refine g_assign rfl s28 ?_
          intro a29 p29
          have s2 : a29.eval (.tmp 2) = .bool false := p29.at hs (by decide)
          replace hs := p29.st hs
          refine wpList_nil ?_
          refine hK6 _ _ ?_
          clear hK6
          refine wp_ret ?_
          try dsimp only [Exit.then, Exit.inBlock]
          refine ret1 hs Try.results30 (res_tmp s2) ?_
          exact ⟨by unfold frOk; simp [hc5, hc7, hc8, decide_eq_false hc9], hB⟩
  · replace s6 := s6.trans (congrArg Value.bool hc5)
    replace s6 : a5.eval (.tmp 6) = .bool true := s6
    replace s7 := s7.trans (congrArg Value.bool hc5)
    replace s7 : a6.eval (.tmp 7) = .bool true := s7
    refine q_skip rfl rfl s7 rfl ?_
    intro a7 p7
    have s8 : a7.eval (.tmp 8) = undef := p7.at hs (by decide)
    replace hs := p7.st hs
    refine q_skip rfl rfl ((p7.ne rfl).trans s7) rfl ?_
    intro a8 p8
    have s9 : a8.eval (.tmp 9) = undef := p8.at hs (by decide)
    replace hs := p8.st hs
    refine q_skip rfl rfl (((p8.ne rfl).trans (p7.ne rfl)).trans s7) rfl ?_
    intro a9 p9
    have s10 : a9.eval (.tmp 10) = undef := p9.at hs (by decide)
    replace hs := p9.st hs
    refine q_val rfl rfl ?_
    refine g_pick_t rfl (((p9.ne rfl).trans ((p8.ne rfl).trans (p7.ne rfl))).trans s7) rfl ?_
    intro a10 p10
    have s11 : a10.eval (.tmp 11) = .bool true := p10.at hs (by decide)
    replace hs := p10.st hs
    refine q_val rfl rfl ?_
    refine g_assign rfl s11 ?_
    intro a11 p11
    have s3 : a11.eval (.tmp 3) = .bool true := p11.at hs (by decide)
    replace hs := p11.st hs
    refine wpList_nil ?_
    replace s1 : a11.eval (.tmp 1) = .pointer (some ⟨q2, 0, none⟩) := ((p11.ne rfl).trans ((p10.ne rfl).trans ((p9.ne rfl).trans ((p8.ne rfl).trans ((p7.ne rfl).trans ((p6.ne rfl).trans ((p5.ne rfl).trans ((p4.ne rfl).trans (p3.ne rfl))))))))).trans s1
    replace s2 : a11.eval (.tmp 2) = .bool false := ((p11.ne rfl).trans ((p10.ne rfl).trans ((p9.ne rfl).trans ((p8.ne rfl).trans ((p7.ne rfl).trans ((p6.ne rfl).trans ((p5.ne rfl).trans ((p4.ne rfl).trans (p3.ne rfl))))))))).trans s2
    refine hK4 _ _ ?_
    clear hK4
    refine wp_seq_k fun K10 hK10 => ?_
    refine wp_region_lit ?_
    refine q_val rfl rfl ?_
    refine g_field (r := 0) rfl s1 Try.underlying40 rfl (fun w => Try.sizeOf3 w) rfl rfl ?_
    intro a12 p12
    have s12 : a12.eval (.tmp 12) = .pointer (some ⟨q2, 0, none⟩) := p12.at hs (by decide)
    replace hs := p12.st hs
    refine q_val rfl rfl ?_
    refine g_load rfl s12 Try.isAgg3 (box_cell h_q2 rfl) ?_
    intro a13 p13
    have s13 : a13.eval (.tmp 13) = .int .i64 x.f0 := p13.at hs (by decide)
    replace hs := p13.st hs
    refine q_val rfl rfl ?_
    refine g_call rfl rfl Try.call38 (arr3 s13 rfl rfl) ?_
    refine (between_any _ _ _ _).mono ?_
    rintro e w' ⟨rfl, rfl⟩
    refine ⟨_, rfl, ?_⟩
    intro a14 p14
    have s14 : a14.eval (.tmp 14) = .bool (inB x.f0 0 2) := p14.at hs (by decide)
    replace hs := p14.st hs
    refine q_val rfl rfl ?_
    refine g_move rfl s14 ?_
    intro a15 p15
    have s15 : a15.eval (.tmp 15) = .bool (inB x.f0 0 2) := p15.at hs (by decide)
    replace hs := p15.st hs
    cases hc11 : inB x.f0 0 2
    · replace s14 := s14.trans (congrArg Value.bool hc11)
      replace s14 : a14.eval (.tmp 14) = .bool false := s14
      replace s15 := s15.trans (congrArg Value.bool hc11)
      replace s15 : a15.eval (.tmp 15) = .bool false := s15
      refine q_skip rfl rfl s15 rfl ?_
      intro a16 p16
      have s16 : a16.eval (.tmp 16) = undef := p16.at hs (by decide)
      replace hs := p16.st hs
      refine q_skip rfl rfl ((p16.ne rfl).trans s15) rfl ?_
      intro a17 p17
      have s17 : a17.eval (.tmp 17) = undef := p17.at hs (by decide)
      replace hs := p17.st hs
      refine q_skip rfl rfl (((p17.ne rfl).trans (p16.ne rfl)).trans s15) rfl ?_
      intro a18 p18
      have s18 : a18.eval (.tmp 18) = undef := p18.at hs (by decide)
      replace hs := p18.st hs
      refine q_val rfl rfl ?_
      refine g_pick_f rfl (((p18.ne rfl).trans ((p17.ne rfl).trans (p16.ne rfl))).trans s15) rfl ?_
      intro a19 p19
      have s19 : a19.eval (.tmp 19) = .bool false := p19.at hs (by decide)
      replace hs := p19.st hs
      refine q_val rfl rfl ?_
      refine g_move rfl s19 ?_
      intro a20 p20
      have s20 : a20.eval (.tmp 20) = .bool false := p20.at hs (by decide)
      replace hs := p20.st hs
      refine q_skip rfl rfl s20 rfl ?_
      intro a21 p21
      have s21 : a21.eval (.tmp 21) = undef := p21.at hs (by decide)
      replace hs := p21.st hs
      refine q_val rfl rfl ?_
      refine g_pick_f rfl ((p21.ne rfl).trans s20) rfl ?_
      intro a22 p22
      have s22 : a22.eval (.tmp 22) = .bool false := p22.at hs (by decide)
      replace hs := p22.st hs
      refine q_val rfl rfl ?_
      refine g_move rfl s22 ?_
      intro a23 p23
      have s23 : a23.eval (.tmp 23) = .bool false := p23.at hs (by decide)
      replace hs := p23.st hs
      refine q_skip rfl rfl s23 rfl ?_
      intro a24 p24
      have s24 : a24.eval (.tmp 24) = undef := p24.at hs (by decide)
      replace hs := p24.st hs
      refine q_skip rfl rfl ((p24.ne rfl).trans s23) rfl ?_
      intro a25 p25
      have s25 : a25.eval (.tmp 25) = undef := p25.at hs (by decide)
      replace hs := p25.st hs
      refine q_skip rfl rfl (((p25.ne rfl).trans (p24.ne rfl)).trans s23) rfl ?_
      intro a26 p26
      have s26 : a26.eval (.tmp 26) = undef := p26.at hs (by decide)
      replace hs := p26.st hs
      refine q_skip rfl rfl (((p26.ne rfl).trans ((p25.ne rfl).trans (p24.ne rfl))).trans s23) rfl ?_
      intro a27 p27
      have s27 : a27.eval (.tmp 27) = undef := p27.at hs (by decide)
      replace hs := p27.st hs
      refine q_val rfl rfl ?_
      refine g_pick_f rfl (((p27.ne rfl).trans ((p26.ne rfl).trans ((p25.ne rfl).trans (p24.ne rfl)))).trans s23) rfl ?_
      intro a28 p28
      have s28 : a28.eval (.tmp 28) = .bool false := p28.at hs (by decide)
      replace hs := p28.st hs
      refine q_val rfl rfl ?_
      refine g_assign rfl s28 ?_
      intro a29 p29
      have s2 : a29.eval (.tmp 2) = .bool false := p29.at hs (by decide)
      replace hs := p29.st hs
      refine wpList_nil ?_
      refine hK10 _ _ ?_
      clear hK10
      refine wp_ret ?_
      try dsimp only [Exit.then, Exit.inBlock]
      refine ret1 hs Try.results30 (res_tmp s2) ?_
      exact ⟨by unfold frOk; simp [hc5, hc11], hB⟩
    · replace s14 := s14.trans (congrArg Value.bool hc11)
      replace s14 : a14.eval (.tmp 14) = .bool true := s14
      replace s15 := s15.trans (congrArg Value.bool hc11)
      replace s15 : a15.eval (.tmp 15) = .bool true := s15
      refine q_take rfl rfl s15 rfl ?_
      refine g_field (r := 1) rfl (((p15.ne rfl).trans ((p14.ne rfl).trans ((p13.ne rfl).trans (p12.ne rfl)))).trans s1) Try.underlying40 rfl (fun w => Try.sizeOf3 w) rfl rfl ?_
      intro a16 p16
      have s16 : a16.eval (.tmp 16) = .pointer (some ⟨q2, 1, none⟩) := p16.at hs (by decide)
      replace hs := p16.st hs
      refine q_take rfl rfl ((p16.ne rfl).trans s15) rfl ?_
      refine g_load rfl s16 Try.isAgg3 (box_cell h_q2 rfl) ?_
      intro a17 p17
      have s17 : a17.eval (.tmp 17) = .int .i64 x.f1 := p17.at hs (by decide)
      replace hs := p17.st hs
      refine q_take rfl rfl (((p17.ne rfl).trans (p16.ne rfl)).trans s15) rfl ?_
      refine g_call rfl rfl Try.call38 (arr3 s17 rfl rfl) ?_
      refine (between_any _ _ _ _).mono ?_
      rintro e w' ⟨rfl, rfl⟩
      refine ⟨_, rfl, ?_⟩
      intro a18 p18
      have s18 : a18.eval (.tmp 18) = .bool (inB x.f1 0 255) := p18.at hs (by decide)
      replace hs := p18.st hs
      refine q_val rfl rfl ?_
      refine g_pick_t rfl (((p18.ne rfl).trans ((p17.ne rfl).trans (p16.ne rfl))).trans s15) s18 ?_
      intro a19 p19
      have s19 : a19.eval (.tmp 19) = .bool (inB x.f1 0 255) := p19.at hs (by decide)
      replace hs := p19.st hs
      refine q_val rfl rfl ?_
      refine g_move rfl s19 ?_
      intro a20 p20
      have s20 : a20.eval (.tmp 20) = .bool (inB x.f1 0 255) := p20.at hs (by decide)
      replace hs := p20.st hs
      cases hc12 : inB x.f1 0 255
      · replace s18 := s18.trans (congrArg Value.bool hc12)
        replace s18 : a18.eval (.tmp 18) = .bool false := s18
        replace s19 := s19.trans (congrArg Value.bool hc12)
        replace s19 : a19.eval (.tmp 19) = .bool false := s19
        replace s20 := s20.trans (congrArg Value.bool hc12)
        replace s20 : a20.eval (.tmp 20) = .bool false := s20
        refine q_skip rfl rfl s20 rfl ?_
        intro a21 p21
        have s21 : a21.eval (.tmp 21) = undef := p21.at hs (by decide)
        replace hs := p21.st hs
        refine q_val rfl rfl ?_
        refine g_pick_f rfl ((p21.ne rfl).trans s20) rfl ?_
        intro a22 p22
        have s22 : a22.eval (.tmp 22) = .bool false := p22.at hs (by decide)
        replace hs := p22.st hs
        refine q_val rfl rfl ?_
        refine g_move rfl s22 ?_
        intro a23 p23
        have s23 : a23.eval (.tmp 23) = .bool false := p23.at hs (by decide)
        replace hs := p23.st hs
        refine q_skip rfl rfl s23 rfl ?_
        intro a24 p24
        have s24 : a24.eval (.tmp 24) = undef := p24.at hs (by decide)
        replace hs := p24.st hs
        refine q_skip rfl rfl ((p24.ne rfl).trans s23) rfl ?_
        intro a25 p25
        have s25 : a25.eval (.tmp 25) = undef := p25.at hs (by decide)
        replace hs := p25.st hs
        refine q_skip rfl rfl (((p25.ne rfl).trans (p24.ne rfl)).trans s23) rfl ?_
        intro a26 p26
        have s26 : a26.eval (.tmp 26) = undef := p26.at hs (by decide)
        replace hs := p26.st hs
        refine q_skip rfl rfl (((p26.ne rfl).trans ((p25.ne rfl).trans (p24.ne rfl))).trans s23) rfl ?_
        intro a27 p27
        have s27 : a27.eval (.tmp 27) = undef := p27.at hs (by decide)
        replace hs := p27.st hs
        refine q_val rfl rfl ?_
        refine g_pick_f rfl (((p27.ne rfl).trans ((p26.ne rfl).trans ((p25.ne rfl).trans (p24.ne rfl)))).trans s23) rfl ?_
        intro a28 p28
        have s28 : a28.eval (.tmp 28) = .bool false := p28.at hs (by decide)
        replace hs := p28.st hs
        refine q_val rfl rfl ?_
        refine g_assign rfl s28 ?_
        intro a29 p29
        have s2 : a29.eval (.tmp 2) = .bool false := p29.at hs (by decide)
        replace hs := p29.st hs
        refine wpList_nil ?_
        refine hK10 _ _ ?_
        clear hK10
        refine wp_ret ?_
        try dsimp only [Exit.then, Exit.inBlock]
        refine ret1 hs Try.results30 (res_tmp s2) ?_
        exact ⟨by unfold frOk; simp [hc5, hc11, hc12], hB⟩
      · replace s18 := s18.trans (congrArg Value.bool hc12)
        replace s18 : a18.eval (.tmp 18) = .bool true := s18
        replace s19 := s19.trans (congrArg Value.bool hc12)
        replace s19 : a19.eval (.tmp 19) = .bool true := s19
        replace s20 := s20.trans (congrArg Value.bool hc12)
        replace s20 : a20.eval (.tmp 20) = .bool true := s20
        refine q_take rfl rfl s20 rfl ?_
        refine g_move rfl (((p20.ne rfl).trans ((p19.ne rfl).trans ((p18.ne rfl).trans ((p17.ne rfl).trans ((p16.ne rfl).trans ((p15.ne rfl).trans ((p14.ne rfl).trans ((p13.ne rfl).trans (p12.ne rfl))))))))).trans s3) ?_
        intro a21 p21
        have s21 : a21.eval (.tmp 21) = .bool true := p21.at hs (by decide)
        replace hs := p21.st hs
        refine q_val rfl rfl ?_
        refine g_pick_t rfl ((p21.ne rfl).trans s20) s21 ?_
        intro a22 p22
        have s22 : a22.eval (.tmp 22) = .bool true := p22.at hs (by decide)
        replace hs := p22.st hs
        refine q_val rfl rfl ?_
        refine g_move rfl s22 ?_
        intro a23 p23
        have s23 : a23.eval (.tmp 23) = .bool true := p23.at hs (by decide)
        replace hs := p23.st hs
        refine q_take rfl rfl s23 rfl ?_
        refine g_field (r := 3) rfl (((p23.ne rfl).trans ((p22.ne rfl).trans ((p21.ne rfl).trans ((p20.ne rfl).trans ((p19.ne rfl).trans ((p18.ne rfl).trans ((p17.ne rfl).trans ((p16.ne rfl).trans ((p15.ne rfl).trans ((p14.ne rfl).trans ((p13.ne rfl).trans (p12.ne rfl)))))))))))).trans s1) Try.underlying40 rfl (fun w => Try.sizeOf9 w) rfl rfl ?_
        intro a24 p24
        have s24 : a24.eval (.tmp 24) = .pointer (some ⟨q2, 3, none⟩) := p24.at hs (by decide)
        replace hs := p24.st hs
        refine q_take rfl rfl ((p24.ne rfl).trans s23) rfl ?_
        refine g_load rfl s24 Try.isAgg9 (box_cell h_q2 rfl) ?_
        intro a25 p25
        have s25 : a25.eval (.tmp 25) = .string ⟨(x.f3).toArray⟩ := p25.at hs (by decide)
        replace hs := p25.st hs
        refine q_take rfl rfl (((p25.ne rfl).trans (p24.ne rfl)).trans s23) rfl ?_
        refine g_lenS rfl Try.underlying9 s25 ?_
        intro a26 p26
        have s26 : a26.eval (.tmp 26) = .int .i64 (((x.f3).length : Nat) : Int) := p26.at hs (by decide)
        replace hs := p26.st hs
        refine q_take rfl rfl (((p26.ne rfl).trans ((p25.ne rfl).trans (p24.ne rfl))).trans s23) rfl ?_
        refine g_eql rfl s26 rfl ?_
        intro a27 p27
        have s27 : a27.eval (.tmp 27) = .bool (decide ((((x.f3).length : Nat) : Int) = 24)) := p27.at hs (by decide)
        replace hs := p27.st hs
        refine q_val rfl rfl ?_
        refine g_pick_t rfl (((p27.ne rfl).trans ((p26.ne rfl).trans ((p25.ne rfl).trans (p24.ne rfl)))).trans s23) s27 ?_
        intro a28 p28
        have s28 : a28.eval (.tmp 28) = .bool (decide ((((x.f3).length : Nat) : Int) = 24)) := p28.at hs (by decide)
        replace hs := p28.st hs
        refine q_val rfl rfl ?_
        refine g_assign rfl s28 ?_
        intro a29 p29
        have s2 : a29.eval (.tmp 2) = .bool (decide ((((x.f3).length : Nat) : Int) = 24)) := p29.at hs (by decide)
        replace hs := p29.st hs
        refine wpList_nil ?_
        refine hK10 _ _ ?_
        clear hK10
        refine wp_ret ?_
        try dsimp only [Exit.then, Exit.inBlock]
        refine ret1 hs Try.results30 (res_tmp s2) ?_
        exact ⟨by unfold frOk; simp [hc5, hc11, hc12], hB⟩
set_option maxRecDepth 100000 in
set_option maxHeartbeats 4000000 in
theorem unpackerOk_any {u : EUnp} (w : World) (hx : Txt u.rest) :
    Calls Try.prog 16 #[.agg #[.int .i64 u.ch, .int .i64 u.nx, .bool u.sy, .string ⟨(u.rest).toArray⟩, .int .i64 u.lost]] w fun e w' => e = .returned (.bool (unpOk u)) ∧ Below w.heap.size w w' := by
  unfold Txt at hx
  refine enter 32 Try.func16 rfl rfl (Nat.le_of_ble_eq_true rfl) ?_
  intro a0 hs hargs
  have s0 : a0.eval (.tmp 0) = .agg #[.int .i64 u.ch, .int .i64 u.nx, .bool u.sy, .string ⟨(u.rest).toArray⟩, .int .i64 u.lost] := hargs 0 _ rfl
  clear hargs
  have hB : Below w.heap.size w w := Below.refl _ _
  refine wp_seq_k fun K1 hK1 => ?_
  refine wp_region_lit ?_
  refine q_val rfl rfl ?_
  refine g_box rfl s0 rfl ?_
  intro q2 w3 N_q2
  have g_q2 : GeB w.heap.size q2 := ⟨Nat.le_trans hB.size N_q2.lo⟩
  replace hB := below_new hB hB.size N_q2
  have h_q2 := N_q2.here
  clear N_q2
  intro a1 p1
  have s1 : a1.eval (.tmp 1) = .pointer (some ⟨q2, 0, none⟩) := p1.at hs (by decide)
  replace hs := p1.st hs
  refine q_val rfl rfl ?_
  refine g_assign rfl rfl ?_
  intro a2 p2
  have s2 : a2.eval (.tmp 2) = .bool false := p2.at hs (by decide)
  replace hs := p2.st hs
  refine wpList_nil ?_
  replace s1 : a2.eval (.tmp 1) = .pointer (some ⟨q2, 0, none⟩) := (p2.ne rfl).trans s1
  refine hK1 _ _ ?_
  clear hK1
  refine wp_seq_k fun K4 hK4 => ?_
  refine wp_seq_k fun K5 hK5 => ?_
  refine wp_region_lit ?_
  refine q_val rfl rfl ?_
  refine g_field (r := 0) rfl s1 Try.underlying42 rfl (fun w => Try.sizeOf3 w) rfl rfl ?_
  intro a3 p3
  have s3 : a3.eval (.tmp 3) = .pointer (some ⟨q2, 0, none⟩) := p3.at hs (by decide)
  replace hs := p3.st hs
  refine q_val rfl rfl ?_
  refine g_load rfl s3 Try.isAgg3 (box_cell h_q2 rfl) ?_
  intro a4 p4
  have s4 : a4.eval (.tmp 4) = .int .i64 u.ch := p4.at hs (by decide)
  replace hs := p4.st hs
  refine q_val rfl rfl ?_
  refine g_call rfl rfl Try.call38 (arr3 s4 rfl rfl) ?_
  refine (between_any _ _ _ _).mono ?_
  rintro e w' ⟨rfl, rfl⟩
  refine ⟨_, rfl, ?_⟩
  intro a5 p5
  have s5 : a5.eval (.tmp 5) = .bool (inB u.ch 0 2) := p5.at hs (by decide)
  replace hs := p5.st hs
  refine q_val rfl rfl ?_
  refine g_not rfl s5 ?_
  intro a6 p6
  have s6 : a6.eval (.tmp 6) = .bool (!(inB u.ch 0 2)) := p6.at hs (by decide)
  replace hs := p6.st hs
  refine q_val rfl rfl ?_
  refine g_move rfl s6 ?_
  intro a7 p7
  have s7 : a7.eval (.tmp 7) = .bool (!(inB u.ch 0 2)) := p7.at hs (by decide)
  replace hs := p7.st hs
  cases hc6 : inB u.ch 0 2
  · replace s5 := s5.trans (congrArg Value.bool hc6)
    replace s5 : a5.eval (.tmp 5) = .bool false := s5
    replace s6 := s6.trans (congrArg (fun b => Value.bool (!b)) hc6)
    replace s6 : a6.eval (.tmp 6) = .bool true := s6
    replace s7 := s7.trans (congrArg (fun b => Value.bool (!b)) hc6)
    replace s7 : a7.eval (.tmp 7) = .bool true := s7
    refine q_skip rfl rfl s7 rfl ?_
    intro a8 p8
    have s8 : a8.eval (.tmp 8) = undef := p8.at hs (by decide)
    replace hs := p8.st hs
    refine q_skip rfl rfl ((p8.ne rfl).trans s7) rfl ?_
    intro a9 p9
    have s9 : a9.eval (.tmp 9) = undef := p9.at hs (by decide)
    replace hs := p9.st hs
    refine q_skip rfl rfl (((p9.ne rfl).trans (p8.ne rfl)).trans s7) rfl ?_
    intro a10 p10
    have s10 : a10.eval (.tmp 10) = undef := p10.at hs (by decide)
    replace hs := p10.st hs
    refine q_skip rfl rfl (((p10.ne rfl).trans ((p9.ne rfl).trans (p8.ne rfl))).trans s7) rfl ?_
    intro a11 p11
    have s11 : a11.eval (.tmp 11) = undef := p11.at hs (by decide)
    replace hs := p11.st hs
    refine q_val rfl rfl ?_
    refine g_pick_t rfl (((p11.ne rfl).trans ((p10.ne rfl).trans ((p9.ne rfl).trans (p8.ne rfl)))).trans s7) rfl ?_
    intro a12 p12
    have s12 : a12.eval (.tmp 12) = .bool true := p12.at hs (by decide)
    replace hs := p12.st hs
    refine q_val rfl rfl ?_
    refine g_move rfl s12 ?_
    intro a13 p13
    have s13 : a13.eval (.tmp 13) = .bool true := p13.at hs (by decide)
    replace hs := p13.st hs
    refine q_skip rfl rfl s13 rfl ?_
    intro a14 p14
    have s14 : a14.eval (.tmp 14) = undef := p14.at hs (by decide)
    replace hs := p14.st hs
    refine q_skip rfl rfl ((p14.ne rfl).trans s13) rfl ?_
    intro a15 p15
    have s15 : a15.eval (.tmp 15) = undef := p15.at hs (by decide)
    replace hs := p15.st hs
    refine q_skip rfl rfl (((p15.ne rfl).trans (p14.ne rfl)).trans s13) rfl ?_
    intro a16 p16
    have s16 : a16.eval (.tmp 16) = undef := p16.at hs (by decide)
    replace hs := p16.st hs
    refine q_skip rfl rfl (((p16.ne rfl).trans ((p15.ne rfl).trans (p14.ne rfl))).trans s13) rfl ?_
    intro a17 p17
    have s17 : a17.eval (.tmp 17) = undef := p17.at hs (by decide)
    replace hs := p17.st hs
    refine q_val rfl rfl ?_
    refine g_pick_t rfl (((p17.ne rfl).trans ((p16.ne rfl).trans ((p15.ne rfl).trans (p14.ne rfl)))).trans s13) rfl ?_
    intro a18 p18
    have s18 : a18.eval (.tmp 18) = .bool true := p18.at hs (by decide)
    replace hs := p18.st hs
    refine wpList_nil ?_
    replace s1 : a18.eval (.tmp 1) = .pointer (some ⟨q2, 0, none⟩) := ((p18.ne rfl).trans ((p17.ne rfl).trans ((p16.ne rfl).trans ((p15.ne rfl).trans ((p14.ne rfl).trans ((p13.ne rfl).trans ((p12.ne rfl).trans ((p11.ne rfl).trans ((p10.ne rfl).trans ((p9.ne rfl).trans ((p8.ne rfl).trans ((p7.ne rfl).trans ((p6.ne rfl).trans ((p5.ne rfl).trans ((p4.ne rfl).trans (p3.ne rfl)))))))))))))))).trans s1
    replace s2 : a18.eval (.tmp 2) = .bool false := ((p18.ne rfl).trans ((p17.ne rfl).trans ((p16.ne rfl).trans ((p15.ne rfl).trans ((p14.ne rfl).trans ((p13.ne rfl).trans ((p12.ne rfl).trans ((p11.ne rfl).trans ((p10.ne rfl).trans ((p9.ne rfl).trans ((p8.ne rfl).trans ((p7.ne rfl).trans ((p6.ne rfl).trans ((p5.ne rfl).trans ((p4.ne rfl).trans (p3.ne rfl)))))))))))))))).trans s2
    refine hK5 _ _ ?_
    clear hK5
    refine c_true s18 ?_
    refine wp_seq_k fun K7 hK7 => ?_
    refine wp_region_lit ?_
    refine q_val rfl rfl ?_
    refine g_assign rfl rfl ?_
    intro a19 p19
    have s2 : a19.eval (.tmp 2) = .bool false := p19.at hs (by decide)
    replace hs := p19.st hs
    refine wpList_nil ?_
    replace s1 : a19.eval (.tmp 1) = .pointer (some ⟨q2, 0, none⟩) := (p19.ne rfl).trans s1
    refine hK7 _ _ ?_
    clear hK7
    refine wp_ret ?_
    try dsimp only [Exit.then, Exit.inBlock]
    refine ret1 hs Try.results16 (res_tmp s2) ?_
    exact ⟨by unfold unpOk; simp [hc6], hB⟩
  · replace s5 := s5.trans (congrArg Value.bool hc6)
    replace s5 : a5.eval (.tmp 5) = .bool true := s5
    replace s6 := s6.trans (congrArg (fun b => Value.bool (!b)) hc6)
    replace s6 : a6.eval (.tmp 6) = .bool false := s6
    replace s7 := s7.trans (congrArg (fun b => Value.bool (!b)) hc6)
    replace s7 : a7.eval (.tmp 7) = .bool false := s7
    refine q_take rfl rfl s7 rfl ?_
    refine g_field (r := 1) rfl (((p7.ne rfl).trans ((p6.ne rfl).trans ((p5.ne rfl).trans ((p4.ne rfl).trans (p3.ne rfl))))).trans s1) Try.underlying42 rfl (fun w => Try.sizeOf3 w) rfl rfl ?_
    intro a8 p8
    have s8 : a8.eval (.tmp 8) = .pointer (some ⟨q2, 1, none⟩) := p8.at hs (by decide)
    replace hs := p8.st hs
    refine q_take rfl rfl ((p8.ne rfl).trans s7) rfl ?_
    refine g_load rfl s8 Try.isAgg3 (box_cell h_q2 rfl) ?_
    intro a9 p9
    have s9 : a9.eval (.tmp 9) = .int .i64 u.nx := p9.at hs (by decide)
    replace hs := p9.st hs
    refine q_take rfl rfl (((p9.ne rfl).trans (p8.ne rfl)).trans s7) rfl ?_
    refine g_call rfl rfl Try.call38 (arr3 s9 rfl rfl) ?_
    refine (between_any _ _ _ _).mono ?_
    rintro e w' ⟨rfl, rfl⟩
    refine ⟨_, rfl, ?_⟩
    intro a10 p10
    have s10 : a10.eval (.tmp 10) = .bool (inB u.nx (-1) 255) := p10.at hs (by decide)
    replace hs := p10.st hs
    refine q_take rfl rfl (((p10.ne rfl).trans ((p9.ne rfl).trans (p8.ne rfl))).trans s7) rfl ?_
    refine g_not rfl s10 ?_
    intro a11 p11
    have s11 : a11.eval (.tmp 11) = .bool (!(inB u.nx (-1) 255)) := p11.at hs (by decide)
    replace hs := p11.st hs
    refine q_val rfl rfl ?_
    refine g_pick_f rfl (((p11.ne rfl).trans ((p10.ne rfl).trans ((p9.ne rfl).trans (p8.ne rfl)))).trans s7) s11 ?_
    intro a12 p12
    have s12 : a12.eval (.tmp 12) = .bool (!(inB u.nx (-1) 255)) := p12.at hs (by decide)
    replace hs := p12.st hs
    refine q_val rfl rfl ?_
    refine g_move rfl s12 ?_
    intro a13 p13
    have s13 : a13.eval (.tmp 13) = .bool (!(inB u.nx (-1) 255)) := p13.at hs (by decide)
    replace hs := p13.st hs
    cases hc8 : inB u.nx (-1) 255
    · replace s10 := s10.trans (congrArg Value.bool hc8)
      replace s10 : a10.eval (.tmp 10) = .bool false := s10
      replace s11 := s11.trans (congrArg (fun b => Value.bool (!b)) hc8)
      replace s11 : a11.eval (.tmp 11) = .bool true := s11
      replace s12 := s12.trans (congrArg (fun b => Value.bool (!b)) hc8)
      replace s12 : a12.eval (.tmp 12) = .bool true := s12
      replace s13 := s13.trans (congrArg (fun b => Value.bool (!b)) hc8)
      replace s13 : a13.eval (.tmp 13) = .bool true := s13
      refine q_skip rfl rfl s13 rfl ?_
      intro a14 p14
      have s14 : a14.eval (.tmp 14) = undef := p14.at hs (by decide)
      replace hs := p14.st hs
      refine q_skip rfl rfl ((p14.ne rfl).trans s13) rfl ?_
      intro a15 p15
      have s15 : a15.eval (.tmp 15) = undef := p15.at hs (by decide)
      replace hs := p15.st hs
      refine q_skip rfl rfl (((p15.ne rfl).trans (p14.ne rfl)).trans s13) rfl ?_
      intro a16 p16
      have s16 : a16.eval (.tmp 16) = undef := p16.at hs (by decide)
      replace hs := p16.st hs
      refine q_skip rfl rfl (((p16.ne rfl).trans ((p15.ne rfl).trans (p14.ne rfl))).trans s13) rfl ?_
      intro a17 p17
      have s17 : a17.eval (.tmp 17) = undef := p17.at hs (by decide)
      replace hs := p17.st hs
      refine q_val rfl rfl ?_
      refine g_pick_t rfl (((p17.ne rfl).trans ((p16.ne rfl).trans ((p15.ne rfl).trans (p14.ne rfl)))).trans s13) rfl ?_
      intro a18 p18
      have s18 : a18.eval (.tmp 18) = .bool true := p18.at hs (by decide)
      replace hs := p18.st hs
      refine wpList_nil ?_
      replace s1 : a18.eval (.tmp 1) = .pointer (some ⟨q2, 0, none⟩) := ((p18.ne rfl).trans ((p17.ne rfl).trans ((p16.ne rfl).trans ((p15.ne rfl).trans ((p14.ne rfl).trans ((p13.ne rfl).trans ((p12.ne rfl).trans ((p11.ne rfl).trans ((p10.ne rfl).trans ((p9.ne rfl).trans ((p8.ne rfl).trans ((p7.ne rfl).trans ((p6.ne rfl).trans ((p5.ne rfl).trans ((p4.ne rfl).trans (p3.ne rfl)))))))))))))))).trans s1
      replace s2 : a18.eval (.tmp 2) = .bool false := ((p18.ne rfl).trans ((p17.ne rfl).trans ((p16.ne rfl).trans ((p15.ne rfl).trans ((p14.ne rfl).trans ((p13.ne rfl).trans ((p12.ne rfl).trans ((p11.ne rfl).trans ((p10.ne rfl).trans ((p9.ne rfl).trans ((p8.ne rfl).trans ((p7.ne rfl).trans ((p6.ne rfl).trans ((p5.ne rfl).trans ((p4.ne rfl).trans (p3.ne rfl)))))))))))))))).trans s2
      refine hK5 _ _ ?_
      clear hK5
      refine c_true s18 ?_
      refine wp_seq_k fun K9 hK9 => ?_
      refine wp_region_lit ?_
      refine q_val rfl rfl ?_
      refine g_assign rfl rfl ?_
      intro a19 p19
      have s2 : a19.eval (.tmp 2) = .bool false := p19.at hs (by decide)
      replace hs := p19.st hs
      refine wpList_nil ?_
      replace s1 : a19.eval (.tmp 1) = .pointer (some ⟨q2, 0, none⟩) := (p19.ne rfl).trans s1
      refine hK9 _ _ ?_
      clear hK9
      refine wp_ret ?_
      try dsimp only [Exit.then, Exit.inBlock]
      refine ret1 hs Try.results16 (res_tmp s2) ?_
      exact ⟨by unfold unpOk; simp [hc6, hc8], hB⟩
    · replace s10 := s10.trans (congrArg Value.bool hc8)
      replace s10 : a10.eval (.tmp 10) = .bool true := s10
      replace s11 := s11.trans (congrArg (fun b => Value.bool (!b)) hc8)
      replace s11 : a11.eval (.tmp 11) = .bool false := s11
      replace s12 := s12.trans (congrArg (fun b => Value.bool (!b)) hc8)
      replace s12 : a12.eval (.tmp 12) = .bool false := s12
      replace s13 := s13.trans (congrArg (fun b => Value.bool (!b)) hc8)
      replace s13 : a13.eval (.tmp 13) = .bool false := s13
      refine q_take rfl rfl s13 rfl ?_
      refine g_field (r := 4) rfl (((p13.ne rfl).trans ((p12.ne rfl).trans ((p11.ne rfl).trans ((p10.ne rfl).trans ((p9.ne rfl).trans ((p8.ne rfl).trans ((p7.ne rfl).trans ((p6.ne rfl).trans ((p5.ne rfl).trans ((p4.ne rfl).trans (p3.ne rfl))))))))))).trans s1) Try.underlying42 rfl (fun w => Try.sizeOf3 w) rfl rfl ?_
      intro a14 p14
      have s14 : a14.eval (.tmp 14) = .pointer (some ⟨q2, 4, none⟩) := p14.at hs (by decide)
      replace hs := p14.st hs
      refine q_take rfl rfl ((p14.ne rfl).trans s13) rfl ?_
      refine g_load rfl s14 Try.isAgg3 (box_cell h_q2 rfl) ?_
      intro a15 p15
      have s15 : a15.eval (.tmp 15) = .int .i64 u.lost := p15.at hs (by decide)
      replace hs := p15.st hs
      refine q_take rfl rfl (((p15.ne rfl).trans (p14.ne rfl)).trans s13) rfl ?_
      refine g_call rfl rfl Try.call38 (arr3 s15 rfl rfl) ?_
      refine (between_any _ _ _ _).mono ?_
      rintro e w' ⟨rfl, rfl⟩
      refine ⟨_, rfl, ?_⟩
      intro a16 p16
      have s16 : a16.eval (.tmp 16) = .bool (inB u.lost 0 1000000) := p16.at hs (by decide)
      replace hs := p16.st hs
      refine q_take rfl rfl (((p16.ne rfl).trans ((p15.ne rfl).trans (p14.ne rfl))).trans s13) rfl ?_
      refine g_not rfl s16 ?_
      intro a17 p17
      have s17 : a17.eval (.tmp 17) = .bool (!(inB u.lost 0 1000000)) := p17.at hs (by decide)
      replace hs := p17.st hs
      refine q_val rfl rfl ?_
      refine g_pick_f rfl (((p17.ne rfl).trans ((p16.ne rfl).trans ((p15.ne rfl).trans (p14.ne rfl)))).trans s13) s17 ?_
      intro a18 p18
      have s18 : a18.eval (.tmp 18) = .bool (!(inB u.lost 0 1000000)) := p18.at hs (by decide)
      replace hs := p18.st hs
      refine wpList_nil ?_
      replace s1 : a18.eval (.tmp 1) = .pointer (some ⟨q2, 0, none⟩) := ((p18.ne rfl).trans ((p17.ne rfl).trans ((p16.ne rfl).trans ((p15.ne rfl).trans ((p14.ne rfl).trans ((p13.ne rfl).trans ((p12.ne rfl).trans ((p11.ne rfl).trans ((p10.ne rfl).trans ((p9.ne rfl).trans ((p8.ne rfl).trans ((p7.ne rfl).trans ((p6.ne rfl).trans ((p5.ne rfl).trans ((p4.ne rfl).trans (p3.ne rfl)))))))))))))))).trans s1
      replace s2 : a18.eval (.tmp 2) = .bool false := ((p18.ne rfl).trans ((p17.ne rfl).trans ((p16.ne rfl).trans ((p15.ne rfl).trans ((p14.ne rfl).trans ((p13.ne rfl).trans ((p12.ne rfl).trans ((p11.ne rfl).trans ((p10.ne rfl).trans ((p9.ne rfl).trans ((p8.ne rfl).trans ((p7.ne rfl).trans ((p6.ne rfl).trans ((p5.ne rfl).trans ((p4.ne rfl).trans (p3.ne rfl)))))))))))))))).trans s2
      refine hK5 _ _ ?_
      clear hK5
      cases hc10 : inB u.lost 0 1000000
      · replace s18 := s18.trans (congrArg (fun b => Value.bool (!b)) hc10)
        replace s18 : a18.eval (.tmp 18) = .bool true := s18
        refine c_true s18 ?_
        refine wp_seq_k fun K11 hK11 => ?_
        refine wp_region_lit ?_
        refine q_val rfl rfl ?_
        refine g_assign rfl rfl ?_
        intro a19 p19
        have s2 : a19.eval (.tmp 2) = .bool false := p19.at hs (by decide)
        replace hs := p19.st hs
        refine wpList_nil ?_
        replace s1 : a19.eval (.tmp 1) = .pointer (some ⟨q2, 0, none⟩) := (p19.ne rfl).trans s1
        refine hK11 _ _ ?_
        clear hK11
        refine wp_ret ?_
        try dsimp only [Exit.then, Exit.inBlock]
        refine ret1 hs Try.results16 (res_tmp s2) ?_
        exact ⟨by unfold unpOk; simp [hc6, hc8, hc10], hB⟩
      · replace s18 := s18.trans (congrArg (fun b => Value.bool (!b)) hc10)
        replace s18 : a18.eval (.tmp 18) = .bool false := s18
        refine c_false s18 ?_
        refine wp_skip ?_
        refine hK4 _ _ ?_
        clear hK4
        refine wp_seq_k fun K12 hK12 => ?_
        refine wp_region_lit ?_
        refine q_val rfl rfl ?_
        refine g_field (r := 2) rfl s1 Try.underlying42 rfl (fun w => Try.sizeOf4 w) rfl rfl ?_
        intro a19 p19
        have s19 : a19.eval (.tmp 19) = .pointer (some ⟨q2, 2, none⟩) := p19.at hs (by decide)
        replace hs := p19.st hs
        refine q_val rfl rfl ?_
        refine g_load rfl s19 Try.isAgg4 (box_cell h_q2 rfl) ?_
        intro a20 p20
        have s20 : a20.eval (.tmp 20) = .bool u.sy := p20.at hs (by decide)
        replace hs := p20.st hs
        refine q_val rfl rfl ?_
        refine g_move rfl s20 ?_
        intro a21 p21
        have s21 : a21.eval (.tmp 21) = .bool u.sy := p21.at hs (by decide)
        replace hs := p21.st hs
        cases hc13 : u.sy
        · replace s20 := s20.trans (congrArg Value.bool hc13)
          replace s20 : a20.eval (.tmp 20) = .bool false := s20
          replace s21 := s21.trans (congrArg Value.bool hc13)
          replace s21 : a21.eval (.tmp 21) = .bool false := s21
          refine q_take rfl rfl s21 rfl ?_
          refine g_field (r := 3) rfl (((p21.ne rfl).trans ((p20.ne rfl).trans (p19.ne rfl))).trans s1) Try.underlying42 rfl (fun w => Try.sizeOf9 w) rfl rfl ?_
          intro a22 p22
          have s22 : a22.eval (.tmp 22) = .pointer (some ⟨q2, 3, none⟩) := p22.at hs (by decide)
          replace hs := p22.st hs
          refine q_take rfl rfl ((p22.ne rfl).trans s21) rfl ?_
          refine g_load rfl s22 Try.isAgg9 (box_cell h_q2 rfl) ?_
          intro a23 p23
          have s23 : a23.eval (.tmp 23) = .string ⟨(u.rest).toArray⟩ := p23.at hs (by decide)
          replace hs := p23.st hs
          refine q_take rfl rfl (((p23.ne rfl).trans (p22.ne rfl)).trans s21) rfl ?_
          refine g_eqlS rfl s23 rfl ?_
          intro a24 p24
          have s24 : a24.eval (.tmp 24) = .bool (decide (u.rest = [])) := p24.at hs (by decide)
          replace hs := p24.st hs
          refine q_val rfl rfl ?_
          refine g_pick_f rfl (((p24.ne rfl).trans ((p23.ne rfl).trans (p22.ne rfl))).trans s21) s24 ?_
          intro a25 p25
          have s25 : a25.eval (.tmp 25) = .bool (decide (u.rest = [])) := p25.at hs (by decide)
          replace hs := p25.st hs
          refine q_val rfl rfl ?_
          refine g_move rfl s25 ?_
          intro a26 p26
          have s26 : a26.eval (.tmp 26) = .bool (decide (u.rest = [])) := p26.at hs (by decide)
          replace hs := p26.st hs
          by_cases hc14 : u.rest = []
          · replace s24 := s24.trans (congrArg Value.bool (decide_eq_true hc14))
            replace s24 : a24.eval (.tmp 24) = .bool true := s24
            replace s25 := s25.trans (congrArg Value.bool (decide_eq_true hc14))
            replace s25 : a25.eval (.tmp 25) = .bool true := s25
            replace s26 := s26.trans (congrArg Value.bool (decide_eq_true hc14))
            replace s26 : a26.eval (.tmp 26) = .bool true := s26
            refine q_take rfl rfl s26 rfl ?_
            refine g_field (r := 3) rfl (((p26.ne rfl).trans ((p25.ne rfl).trans ((p24.ne rfl).trans ((p23.ne rfl).trans ((p22.ne rfl).trans ((p21.ne rfl).trans ((p20.ne rfl).trans (p19.ne rfl)))))))).trans s1) Try.underlying42 rfl (fun w => Try.sizeOf9 w) rfl rfl ?_
            intro a27 p27
            have s27 : a27.eval (.tmp 27) = .pointer (some ⟨q2, 3, none⟩) := p27.at hs (by decide)
            replace hs := p27.st hs
            refine q_take rfl rfl ((p27.ne rfl).trans s26) rfl ?_
            refine g_load rfl s27 Try.isAgg9 (box_cell h_q2 rfl) ?_
            intro a28 p28
            have s28 : a28.eval (.tmp 28) = .string ⟨(u.rest).toArray⟩ := p28.at hs (by decide)
            replace hs := p28.st hs
            refine q_take rfl rfl (((p28.ne rfl).trans (p27.ne rfl)).trans s26) rfl ?_
            refine g_lenS rfl Try.underlying9 s28 ?_
            intro a29 p29
            have s29 : a29.eval (.tmp 29) = .int .i64 (((u.rest).length : Nat) : Int) := p29.at hs (by decide)
            replace hs := p29.st hs
            refine q_take rfl rfl (((p29.ne rfl).trans ((p28.ne rfl).trans (p27.ne rfl))).trans s26) rfl ?_
            refine g_leq rfl s29 rfl ?_
            intro a30 p30
            have s30 : a30.eval (.tmp 30) = .bool (decide ((((u.rest).length : Nat) : Int) ≤ 43)) := p30.at hs (by decide)
            replace hs := p30.st hs
            refine q_val rfl rfl ?_
            refine g_pick_t rfl (((p30.ne rfl).trans ((p29.ne rfl).trans ((p28.ne rfl).trans (p27.ne rfl)))).trans s26) s30 ?_
            intro a31 p31
            have s31 : a31.eval (.tmp 31) = .bool (decide ((((u.rest).length : Nat) : Int) ≤ 43)) := p31.at hs (by decide)
            replace hs := p31.st hs
            refine q_val rfl rfl ?_
            refine g_assign rfl s31 ?_
            intro a32 p32
            have s2 : a32.eval (.tmp 2) = .bool (decide ((((u.rest).length : Nat) : Int) ≤ 43)) := p32.at hs (by decide)
            replace hs := p32.st hs
            refine wpList_nil ?_
            refine hK12 _ _ ?_
            clear hK12
            refine wp_ret ?_
            try dsimp only [Exit.then, Exit.inBlock]
            refine ret1 hs Try.results16 (res_tmp s2) ?_
            exact ⟨by unfold unpOk; simp [hc6, hc8, hc10, hc13, decide_eq_true hc14], hB⟩
          · replace s24 := s24.trans (congrArg Value.bool (decide_eq_false hc14))
            replace s24 : a24.eval (.tmp 24) = .bool false := s24
            replace s25 := s25.trans (congrArg Value.bool (decide_eq_false hc14))
            replace s25 : a25.eval (.tmp 25) = .bool false := s25
            replace s26 := s26.trans (congrArg Value.bool (decide_eq_false hc14))
            replace s26 : a26.eval (.tmp 26) = .bool false := s26
            refine q_skip rfl rfl s26 rfl ?_
            intro a27 p27
            have s27 : a27.eval (.tmp 27) = undef := p27.at hs (by decide)
            replace hs := p27.st hs
            refine q_skip rfl rfl ((p27.ne rfl).trans s26) rfl ?_
            intro a28 p28
            have s28 : a28.eval (.tmp 28) = undef := p28.at hs (by decide)
            replace hs := p28.st hs
            refine q_skip rfl rfl (((p28.ne rfl).trans (p27.ne rfl)).trans s26) rfl ?_
            intro a29 p29
            have s29 : a29.eval (.tmp 29) = undef := p29.at hs (by decide)
            replace hs := p29.st hs
            refine q_skip rfl rfl (((p29.ne rfl).trans ((p28.ne rfl).trans (p27.ne rfl))).trans s26) rfl ?_
            intro a30 p30
            have s30 : a30.eval (.tmp 30) = undef := p30.at hs (by decide)
            replace hs := p30.st hs
            refine q_val rfl rfl ?_
            refine g_pick_f rfl (((p30.ne rfl).trans ((p29.ne rfl).trans ((p28.ne rfl).trans (p27.ne rfl)))).trans s26) rfl ?_
            intro a31 p31
            have s31 : a31.eval (.tmp 31) = .bool false := p31.at hs (by decide)
            replace hs := p31.st hs
            refine q_val rfl rfl ?_
            refine g_assign rfl s31 ?_
            intro a32 p32
            have s2 : a32.eval (.tmp 2) = .bool false := p32.at hs (by decide)
            replace hs := p32.st hs
            refine wpList_nil ?_
            refine hK12 _ _ ?_
            clear hK12
            refine wp_ret ?_
            try dsimp only [Exit.then, Exit.inBlock]
            refine ret1 hs Try.results16 (res_tmp s2) ?_
            exact ⟨by unfold unpOk; simp [hc6, hc8, hc10, hc13, decide_eq_false hc14], hB⟩
        · replace s20 := s20.trans (congrArg Value.bool hc13)
          replace s20 : a20.eval (.tmp 20) = .bool true := s20
          replace s21 := s21.trans (congrArg Value.bool hc13)
          replace s21 : a21.eval (.tmp 21) = .bool true := s21
          refine q_skip rfl rfl s21 rfl ?_
          intro a22 p22
          have s22 : a22.eval (.tmp 22) = undef := p22.at hs (by decide)
          replace hs := p22.st hs
          refine q_skip rfl rfl ((p22.ne rfl).trans s21) rfl ?_
          intro a23 p23
          have s23 : a23.eval (.tmp 23) = undef := p23.at hs (by decide)
          replace hs := p23.st hs
          refine q_skip rfl rfl (((p23.ne rfl).trans (p22.ne rfl)).trans s21) rfl ?_
          intro a24 p24
          have s24 : a24.eval (.tmp 24) = undef := p24.at hs (by decide)
          replace hs := p24.st hs
          refine q_val rfl rfl ?_
          refine g_pick_t rfl (((p24.ne rfl).trans ((p23.ne rfl).trans (p22.ne rfl))).trans s21) rfl ?_
          intro a25 p25
          have s25 : a25.eval (.tmp 25) = .bool true := p25.at hs (by decide)
          replace hs := p25.st hs
          refine q_val rfl rfl ?_
          refine g_move rfl s25 ?_
          intro a26 p26
          have s26 : a26.eval (.tmp 26) = .bool true := p26.at hs (by decide)
          replace hs := p26.st hs
          refine q_take rfl rfl s26 rfl ?_
          refine g_field (r := 3) rfl (((p26.ne rfl).trans ((p25.ne rfl).trans ((p24.ne rfl).trans ((p23.ne rfl).trans ((p22.ne rfl).trans ((p21.ne rfl).trans ((p20.ne rfl).trans (p19.ne rfl)))))))).trans s1) Try.underlying42 rfl (fun w => Try.sizeOf9 w) rfl rfl ?_
          intro a27 p27
          have s27 : a27.eval (.tmp 27) = .pointer (some ⟨q2, 3, none⟩) := p27.at hs (by decide)
          replace hs := p27.st hs
          refine q_take rfl rfl ((p27.ne rfl).trans s26) rfl ?_
          refine g_load rfl s27 Try.isAgg9 (box_cell h_q2 rfl) ?_
          intro a28 p28
          have s28 : a28.eval (.tmp 28) = .string ⟨(u.rest).toArray⟩ := p28.at hs (by decide)
          replace hs := p28.st hs
          refine q_take rfl rfl (((p28.ne rfl).trans (p27.ne rfl)).trans s26) rfl ?_
          refine g_lenS rfl Try.underlying9 s28 ?_
          intro a29 p29
          have s29 : a29.eval (.tmp 29) = .int .i64 (((u.rest).length : Nat) : Int) := p29.at hs (by decide)
          replace hs := p29.st hs
          refine q_take rfl rfl (((p29.ne rfl).trans ((p28.ne rfl).trans (p27.ne rfl))).trans s26) rfl ?_
          refine g_leq rfl s29 rfl ?_
          intro a30 p30
          have s30 : a30.eval (.tmp 30) = .bool (decide ((((u.rest).length : Nat) : Int) ≤ 43)) := p30.at hs (by decide)
          replace hs := p30.st hs
          refine q_val rfl rfl ?_
          refine g_pick_t rfl (((p30.ne rfl).trans ((p29.ne rfl).trans ((p28.ne rfl).trans (p27.ne rfl)))).trans s26) s30 ?_
          intro a31 p31
          have s31 : a31.eval (.tmp 31) = .bool (decide ((((u.rest).length : Nat) : Int) ≤ 43)) := p31.at hs (by decide)
          replace hs := p31.st hs
          refine q_val rfl rfl ?_
          refine g_assign rfl s31 ?_
          intro a32 p32
          have s2 : a32.eval (.tmp 2) = .bool (decide ((((u.rest).length : Nat) : Int) ≤ 43)) := p32.at hs (by decide)
          replace hs := p32.st hs
          refine wpList_nil ?_
          refine hK12 _ _ ?_
          clear hK12
          refine wp_ret ?_
          try dsimp only [Exit.then, Exit.inBlock]
          refine ret1 hs Try.results16 (res_tmp s2) ?_
          exact ⟨by unfold unpOk; simp [hc6, hc8, hc10, hc13], hB⟩
set_option maxRecDepth 100000 in
set_option maxHeartbeats 4000000 in
theorem losePart_any {u : EUnp} (w : World) (h0 : 0 ≤ u.lost) :
    Calls Try.prog 61 #[.agg #[.int .i64 u.ch, .int .i64 u.nx, .bool u.sy, .string ⟨(u.rest).toArray⟩, .int .i64 u.lost]] w fun e w' => e = .returned (.agg #[.int .i64 (loseU u).ch, .int .i64 (loseU u).nx, .bool (loseU u).sy, .string ⟨((loseU u).rest).toArray⟩, .int .i64 (loseU u).lost]) ∧ Below w.heap.size w w' := by
  refine enter 13 Try.func61 rfl rfl (Nat.le_of_ble_eq_true rfl) ?_
  intro a0 hs hargs
  have s0 : a0.eval (.tmp 0) = .agg #[.int .i64 u.ch, .int .i64 u.nx, .bool u.sy, .string ⟨(u.rest).toArray⟩, .int .i64 u.lost] := hargs 0 _ rfl
  clear hargs
  have hB : Below w.heap.size w w := Below.refl _ _
  refine wp_seq_k fun K1 hK1 => ?_
  refine wp_region_lit ?_
  refine q_val rfl rfl ?_
  refine g_box rfl s0 rfl ?_
  intro q2 w3 N_q2
  have g_q2 : GeB w.heap.size q2 := ⟨Nat.le_trans hB.size N_q2.lo⟩
  replace hB := below_new hB hB.size N_q2
  have h_q2 := N_q2.here
  clear N_q2
  intro a1 p1
  have s1 : a1.eval (.tmp 1) = .pointer (some ⟨q2, 0, none⟩) := p1.at hs (by decide)
  replace hs := p1.st hs
  refine q_val rfl rfl ?_
  refine g_alloc rfl Try.zeroValue42 rfl ?_
  intro q4 w5 N_q4
  have n_q2_q4 := N_q4.ne ⟨lt_of_block h_q2⟩
  have n_q4_q2 := n_q2_q4.symm
  have g_q4 : GeB w.heap.size q4 := ⟨Nat.le_trans hB.size N_q4.lo⟩
  replace h_q2 := keep_below h_q2 N_q4.below
  replace hB := below_new hB hB.size N_q4
  have h_q4 := N_q4.here
  clear N_q4
  intro a2 p2
  have s2 : a2.eval (.tmp 2) = .pointer (some ⟨q4, 0, none⟩) := p2.at hs (by decide)
  replace hs := p2.st hs
  refine wpList_nil ?_
  replace s1 : a2.eval (.tmp 1) = .pointer (some ⟨q2, 0, none⟩) := (p2.ne rfl).trans s1
  refine hK1 _ _ ?_
  clear hK1
  refine wp_seq_k fun K6 hK6 => ?_
  refine wp_region_lit ?_
  refine q_val rfl rfl ?_
  refine g_field (r := 3) rfl s1 Try.underlying42 rfl (fun w => Try.sizeOf9 w) rfl rfl ?_
  intro a3 p3
  have s3 : a3.eval (.tmp 3) = .pointer (some ⟨q2, 3, none⟩) := p3.at hs (by decide)
  replace hs := p3.st hs
  refine q_eff rfl rfl ?_
  refine g_store (cs' := #[.int .i64 u.ch, .int .i64 u.nx, .bool u.sy, .string ⟨#[]⟩, .int .i64 u.lost]) rfl s3 rfl Try.sizeOf9 rfl h_q2 (Nat.le_of_ble_eq_true rfl) rfl ?_
  intro w7 W_w7
  replace h_q2 := W_w7.here
  replace h_q4 := keep_wrote h_q4 W_w7 n_q2_q4
  replace hB := below_wrote hB hB.size W_w7 g_q2.le
  clear W_w7
  refine wpList_nil ?_
  replace s1 : a3.eval (.tmp 1) = .pointer (some ⟨q2, 0, none⟩) := (p3.ne rfl).trans s1
  replace s2 : a3.eval (.tmp 2) = .pointer (some ⟨q4, 0, none⟩) := (p3.ne rfl).trans s2
  refine hK6 _ _ ?_
  clear hK6
  refine wp_seq_k fun K8 hK8 => ?_
  refine wp_region_lit ?_
  refine q_val rfl rfl ?_
  refine g_field (r := 2) rfl s1 Try.underlying42 rfl (fun w => Try.sizeOf4 w) rfl rfl ?_
  intro a4 p4
  have s4 : a4.eval (.tmp 4) = .pointer (some ⟨q2, 2, none⟩) := p4.at hs (by decide)
  replace hs := p4.st hs
  refine q_eff rfl rfl ?_
  refine g_store (cs' := #[.int .i64 u.ch, .int .i64 u.nx, .bool false, .string ⟨#[]⟩, .int .i64 u.lost]) rfl s4 rfl Try.sizeOf4 rfl h_q2 (Nat.le_of_ble_eq_true rfl) rfl ?_
  intro w9 W_w9
  replace h_q2 := W_w9.here
  replace h_q4 := keep_wrote h_q4 W_w9 n_q2_q4
  replace hB := below_wrote hB hB.size W_w9 g_q2.le
  clear W_w9
  refine wpList_nil ?_
  replace s1 : a4.eval (.tmp 1) = .pointer (some ⟨q2, 0, none⟩) := (p4.ne rfl).trans s1
  replace s2 : a4.eval (.tmp 2) = .pointer (some ⟨q4, 0, none⟩) := (p4.ne rfl).trans s2
  refine hK8 _ _ ?_
  clear hK8
  refine wp_seq_k fun K10 hK10 => ?_
  refine wp_seq_k fun K11 hK11 => ?_
  refine wp_region_lit ?_
  refine q_val rfl rfl ?_
  refine g_field (r := 4) rfl s1 Try.underlying42 rfl (fun w => Try.sizeOf3 w) rfl rfl ?_
  intro a5 p5
  have s5 : a5.eval (.tmp 5) = .pointer (some ⟨q2, 4, none⟩) := p5.at hs (by decide)
  replace hs := p5.st hs
  refine q_val rfl rfl ?_
  refine g_load rfl s5 Try.isAgg3 (box_cell h_q2 rfl) ?_
  intro a6 p6
  have s6 : a6.eval (.tmp 6) = .int .i64 u.lost := p6.at hs (by decide)
  replace hs := p6.st hs
  refine q_val rfl rfl ?_
  refine g_lss rfl s6 rfl ?_
  intro a7 p7
  have s7 : a7.eval (.tmp 7) = .bool (decide (u.lost < 1000000)) := p7.at hs (by decide)
  replace hs := p7.st hs
  refine wpList_nil ?_
  replace s1 : a7.eval (.tmp 1) = .pointer (some ⟨q2, 0, none⟩) := ((p7.ne rfl).trans ((p6.ne rfl).trans (p5.ne rfl))).trans s1
  replace s2 : a7.eval (.tmp 2) = .pointer (some ⟨q4, 0, none⟩) := ((p7.ne rfl).trans ((p6.ne rfl).trans (p5.ne rfl))).trans s2
  refine hK11 _ _ ?_
  clear hK11
  by_cases hc12 : u.lost < 1000000
  · replace s7 := s7.trans (congrArg Value.bool (decide_eq_true hc12))
    replace s7 : a7.eval (.tmp 7) = .bool true := s7
    refine c_true s7 ?_
    refine wp_region_lit ?_
    refine q_val rfl rfl ?_
    refine g_field (r := 4) rfl s1 Try.underlying42 rfl (fun w => Try.sizeOf3 w) rfl rfl ?_
    intro a8 p8
    have s8 : a8.eval (.tmp 8) = .pointer (some ⟨q2, 4, none⟩) := p8.at hs (by decide)
    replace hs := p8.st hs
    refine q_val rfl rfl ?_
    refine g_load rfl s8 Try.isAgg3 (box_cell h_q2 rfl) ?_
    intro a9 p9
    have s9 : a9.eval (.tmp 9) = .int .i64 u.lost := p9.at hs (by decide)
    replace hs := p9.st hs
    refine q_val rfl rfl ?_
    refine g_add (r := u.lost + 1) rfl s9 rfl (by omega) (by omega) ?_
    intro a10 p10
    have s10 : a10.eval (.tmp 10) = .int .i64 (u.lost + 1) := p10.at hs (by decide)
    replace hs := p10.st hs
    refine q_val rfl rfl ?_
    refine g_field (r := 4) rfl (((p10.ne rfl).trans ((p9.ne rfl).trans (p8.ne rfl))).trans s1) Try.underlying42 rfl (fun w => Try.sizeOf3 w) rfl rfl ?_
    intro a11 p11
    have s11 : a11.eval (.tmp 11) = .pointer (some ⟨q2, 4, none⟩) := p11.at hs (by decide)
    replace hs := p11.st hs
    refine q_eff rfl rfl ?_
    refine g_store (cs' := #[.int .i64 u.ch, .int .i64 u.nx, .bool false, .string ⟨#[]⟩, .int .i64 (u.lost + 1)]) rfl s11 ((p11.ne rfl).trans s10) Try.sizeOf3 rfl h_q2 (Nat.le_of_ble_eq_true rfl) rfl ?_
    intro w13 W_w13
    replace h_q2 := W_w13.here
    replace h_q4 := keep_wrote h_q4 W_w13 n_q2_q4
    replace hB := below_wrote hB hB.size W_w13 g_q2.le
    clear W_w13
    refine wpList_nil ?_
    replace s1 : a11.eval (.tmp 1) = .pointer (some ⟨q2, 0, none⟩) := ((p11.ne rfl).trans ((p10.ne rfl).trans ((p9.ne rfl).trans (p8.ne rfl)))).trans s1
    replace s2 : a11.eval (.tmp 2) = .pointer (some ⟨q4, 0, none⟩) := ((p11.ne rfl).trans ((p10.ne rfl).trans ((p9.ne rfl).trans (p8.ne rfl)))).trans s2
    refine hK10 _ _ ?_
    clear hK10
    refine wp_seq_k fun K14 hK14 => ?_
    refine wp_region_lit ?_
    refine q_val rfl rfl ?_
    refine g_loadB rfl s1 Try.isAgg42 Try.sizeOf42 rfl h_q2 ?_
    intro a12 p12
    have s12 : a12.eval (.tmp 12) = .agg #[.int .i64 u.ch, .int .i64 u.nx, .bool false, .string ⟨#[]⟩, .int .i64 (u.lost + 1)] := p12.at hs (by decide)
    replace hs := p12.st hs
    refine q_eff rfl rfl ?_
    refine g_storeB rfl ((p12.ne rfl).trans s2) s12 Try.sizeOf42 rfl rfl h_q4 rfl ?_
    intro w15 W_w15
    replace h_q2 := keep_wrote h_q2 W_w15 n_q4_q2
    replace h_q4 := W_w15.here
    replace hB := below_wrote hB hB.size W_w15 g_q4.le
    clear W_w15
    refine wpList_nil ?_
    replace s2 : a12.eval (.tmp 2) = .pointer (some ⟨q4, 0, none⟩) := (p12.ne rfl).trans s2
    refine hK14 _ _ ?_
    clear hK14
    refine wp_ret ?_
    try dsimp only [Exit.then, Exit.inBlock]
    refine ret1 hs Try.results61 (res_cell s2 h_q4 Try.isAgg42 Try.sizeOf42 rfl) ?_
    exact ⟨by unfold loseU; simp [hc12], hB⟩
  · replace s7 := s7.trans (congrArg Value.bool (decide_eq_false hc12))
    replace s7 : a7.eval (.tmp 7) = .bool false := s7
    refine c_false s7 ?_
    refine wp_skip ?_
    refine hK10 _ _ ?_
    clear hK10
    refine wp_seq_k fun K16 hK16 => ?_
    refine wp_region_lit ?_
    refine q_val rfl rfl ?_
    refine g_loadB rfl s1 Try.isAgg42 Try.sizeOf42 rfl h_q2 ?_
    intro a8 p8
    have s12 : a8.eval (.tmp 12) = .agg #[.int .i64 u.ch, .int .i64 u.nx, .bool false, .string ⟨#[]⟩, .int .i64 u.lost] := p8.at hs (by decide)
    replace hs := p8.st hs
    refine q_eff rfl rfl ?_
    refine g_storeB rfl ((p8.ne rfl).trans s2) s12 Try.sizeOf42 rfl rfl h_q4 rfl ?_
    intro w17 W_w17
    replace h_q2 := keep_wrote h_q2 W_w17 n_q4_q2
    replace h_q4 := W_w17.here
    replace hB := below_wrote hB hB.size W_w17 g_q4.le
    clear W_w17
    refine wpList_nil ?_
    replace s2 : a8.eval (.tmp 2) = .pointer (some ⟨q4, 0, none⟩) := (p8.ne rfl).trans s2
    refine hK16 _ _ ?_
    clear hK16
    refine wp_ret ?_
    try dsimp only [Exit.then, Exit.inBlock]
    refine ret1 hs Try.results61 (res_cell s2 h_q4 Try.isAgg42 Try.sizeOf42 rfl) ?_
    exact ⟨by unfold loseU; simp [hc12], hB⟩
set_option maxRecDepth 100000 in
set_option maxHeartbeats 4000000 in
theorem newUnpacker_any (w : World) :
    Calls Try.prog 14 #[.int .i64 0] w fun e w' => e = .returned (.agg #[.int .i64 newU.ch, .int .i64 newU.nx, .bool newU.sy, .string ⟨(newU.rest).toArray⟩, .int .i64 newU.lost]) ∧ Below w.heap.size w w' := by
  refine enter 5 Try.func14 rfl rfl (Nat.le_of_ble_eq_true rfl) ?_
  intro a0 hs hargs
  have s0 : a0.eval (.tmp 0) = .int .i64 0 := hargs 0 _ rfl
  clear hargs
  have hB : Below w.heap.size w w := Below.refl _ _
  refine wp_seq_k fun K1 hK1 => ?_
  refine wp_region_lit ?_
  refine q_val rfl rfl ?_
  refine g_alloc rfl Try.zeroValue42 rfl ?_
  intro q2 w3 N_q2
  have g_q2 : GeB w.heap.size q2 := ⟨Nat.le_trans hB.size N_q2.lo⟩
  replace hB := below_new hB hB.size N_q2
  have h_q2 := N_q2.here
  clear N_q2
  intro a1 p1
  have s2 : a1.eval (.tmp 2) = .pointer (some ⟨q2, 0, none⟩) := p1.at hs (by decide)
  replace hs := p1.st hs
  refine wpList_nil ?_
  replace s0 : a1.eval (.tmp 0) = .int .i64 0 := (p1.ne rfl).trans s0
  refine hK1 _ _ ?_
  clear hK1
  refine wp_seq_k fun K4 hK4 => ?_
  refine wp_region_lit ?_
  refine q_val rfl rfl ?_
  refine g_move rfl s0 ?_
  intro a2 p2
  have s3 : a2.eval (.tmp 3) = .int .i64 0 := p2.at hs (by decide)
  replace hs := p2.st hs
  refine q_val rfl rfl ?_
  refine g_build (cells := #[.int .i64 0, .int .i64 (-1), .bool false, .string ⟨#[]⟩, .int .i64 0]) rfl (arrB2 s3 rfl) (by kernel_rfl) ?_
  intro a3 p3
  have s4 : a3.eval (.tmp 4) = .agg #[.int .i64 0, .int .i64 (-1), .bool false, .string ⟨#[]⟩, .int .i64 0] := p3.at hs (by decide)
  replace hs := p3.st hs
  refine q_eff rfl rfl ?_
  refine g_storeB rfl (((p3.ne rfl).trans (p2.ne rfl)).trans s2) s4 Try.sizeOf42 rfl rfl h_q2 rfl ?_
  intro w5 W_w5
  replace h_q2 := W_w5.here
  replace hB := below_wrote hB hB.size W_w5 g_q2.le
  clear W_w5
  refine wpList_nil ?_
  replace s2 : a3.eval (.tmp 2) = .pointer (some ⟨q2, 0, none⟩) := ((p3.ne rfl).trans (p2.ne rfl)).trans s2
  refine hK4 _ _ ?_
  clear hK4
  refine wp_ret ?_
  try dsimp only [Exit.then, Exit.inBlock]
  refine ret1 hs Try.results14 (res_cell s2 h_q2 Try.isAgg42 Try.sizeOf42 rfl) ?_
  exact ⟨rfl, hB⟩
set_option maxRecDepth 100000 in
set_option maxHeartbeats 4000000 in
theorem decodePacket_any (s : List UInt8) (k : Nat) (w : World) (hs' : s.length ≤ 1048576) (hk' : k ≤ 1048576) :
    Calls Try.prog 24 #[.string ⟨s.toArray⟩, .int .i64 ((k : Nat) : Int)] w fun e w' => e = .returned (.tuple #[.agg #[.int .i64 (dpX (s.drop k)).f0, .int .i64 (dpX (s.drop k)).f1, .string ⟨((dpX (s.drop k)).f2).toArray⟩], .int .i64 ((dpN (s.drop k) : Nat) : Int), .bool (dpO (s.drop k))]) ∧ Below w.heap.size w w' := by
  refine enter 72 Try.func24 rfl rfl (Nat.le_of_ble_eq_true rfl) ?_
  intro a0 hs hargs
  have s0 : a0.eval (.tmp 0) = .string ⟨(s).toArray⟩ := hargs 0 _ rfl
  have s1 : a0.eval (.tmp 1) = .int .i64 ((k : Nat) : Int) := hargs 1 _ rfl
  clear hargs
  have hB : Below w.heap.size w w := Below.refl _ _
  refine wp_seq_k fun K1 hK1 => ?_
  refine wp_region_lit ?_
  refine q_val rfl rfl ?_
  refine g_alloc rfl Try.zeroValue32 rfl ?_
  intro q2 w3 N_q2
  have g_q2 : GeB w.heap.size q2 := ⟨Nat.le_trans hB.size N_q2.lo⟩
  replace hB := below_new hB hB.size N_q2
  have h_q2 := N_q2.here
  clear N_q2
  intro a1 p1
  have s4 : a1.eval (.tmp 4) = .pointer (some ⟨q2, 0, none⟩) := p1.at hs (by decide)
  replace hs := p1.st hs
  refine q_val rfl rfl ?_
  refine g_assign rfl rfl ?_
  intro a2 p2
  have s5 : a2.eval (.tmp 5) = .int .i64 0 := p2.at hs (by decide)
  replace hs := p2.st hs
  refine q_val rfl rfl ?_
  refine g_assign rfl rfl ?_
  intro a3 p3
  have s6 : a3.eval (.tmp 6) = .bool false := p3.at hs (by decide)
  replace hs := p3.st hs
  refine wpList_nil ?_
  replace s0 : a3.eval (.tmp 0) = .string ⟨(s).toArray⟩ := ((p3.ne rfl).trans ((p2.ne rfl).trans (p1.ne rfl))).trans s0
  replace s1 : a3.eval (.tmp 1) = .int .i64 ((k : Nat) : Int) := ((p3.ne rfl).trans ((p2.ne rfl).trans (p1.ne rfl))).trans s1
  replace s4 : a3.eval (.tmp 4) = .pointer (some ⟨q2, 0, none⟩) := ((p3.ne rfl).trans (p2.ne rfl)).trans s4
  replace s5 : a3.eval (.tmp 5) = .int .i64 0 := (p3.ne rfl).trans s5
  refine hK1 _ _ ?_
  clear hK1
  refine wp_seq_k fun K4 hK4 => ?_
  refine wp_seq_k fun K5 hK5 => ?_
  refine wp_region_lit ?_
  refine q_val rfl rfl ?_
  refine g_move rfl s1 ?_
  intro a4 p4
  have s13 : a4.eval (.tmp 13) = .int .i64 ((k : Nat) : Int) := p4.at hs (by decide)
  replace hs := p4.st hs
  refine q_val rfl rfl ?_
  refine g_lss rfl s13 rfl ?_
  intro a5 p5
  have s14 : a5.eval (.tmp 14) = .bool false := (p5.at hs (by decide)).trans (congrArg Value.bool (decide_eq_false (by omega)))
  replace hs := p5.st hs
  refine q_val rfl rfl ?_
  refine g_move rfl s14 ?_
  intro a6 p6
  have s15 : a6.eval (.tmp 15) = .bool false := p6.at hs (by decide)
  replace hs := p6.st hs
  refine q_take rfl rfl s15 rfl ?_
  refine g_move rfl (((p6.ne rfl).trans ((p5.ne rfl).trans (p4.ne rfl))).trans s1) ?_
  intro a7 p7
  have s16 : a7.eval (.tmp 16) = .int .i64 ((k : Nat) : Int) := p7.at hs (by decide)
  replace hs := p7.st hs
  refine q_take rfl rfl ((p7.ne rfl).trans s15) rfl ?_
  refine g_move rfl (((p7.ne rfl).trans ((p6.ne rfl).trans ((p5.ne rfl).trans (p4.ne rfl)))).trans s0) ?_
  intro a8 p8
  have s17 : a8.eval (.tmp 17) = .string ⟨(s).toArray⟩ := p8.at hs (by decide)
  replace hs := p8.st hs
  refine q_take rfl rfl (((p8.ne rfl).trans (p7.ne rfl)).trans s15) rfl ?_
  refine g_lenS rfl Try.underlying9 s17 ?_
  intro a9 p9
  have s18 : a9.eval (.tmp 18) = .int .i64 (((s).length : Nat) : Int) := p9.at hs (by decide)
  replace hs := p9.st hs
  refine q_take rfl rfl (((p9.ne rfl).trans ((p8.ne rfl).trans (p7.ne rfl))).trans s15) rfl ?_
  refine g_sub (r := (((s).length : Nat) : Int) - 4) rfl s18 rfl (by omega) (by omega) ?_
  intro a10 p10
  have s19 : a10.eval (.tmp 19) = .int .i64 ((((s).length : Nat) : Int) - 4) := p10.at hs (by decide)
  replace hs := p10.st hs
  refine q_take rfl rfl (((p10.ne rfl).trans ((p9.ne rfl).trans ((p8.ne rfl).trans (p7.ne rfl)))).trans s15) rfl ?_
  refine g_gtr rfl (((p10.ne rfl).trans ((p9.ne rfl).trans (p8.ne rfl))).trans s16) s19 ?_
  intro a11 p11
  have s20 : a11.eval (.tmp 20) = .bool (decide ((((s).length : Nat) : Int) - 4 < ((k : Nat) : Int))) := p11.at hs (by decide)
  replace hs := p11.st hs
  refine q_val rfl rfl ?_
  refine g_pick_f rfl (((p11.ne rfl).trans ((p10.ne rfl).trans ((p9.ne rfl).trans ((p8.ne rfl).trans (p7.ne rfl))))).trans s15) s20 ?_
  intro a12 p12
  have s21 : a12.eval (.tmp 21) = .bool (decide ((((s).length : Nat) : Int) - 4 < ((k : Nat) : Int))) := p12.at hs (by decide)
  replace hs := p12.st hs
  refine wpList_nil ?_
  replace s0 : a12.eval (.tmp 0) = .string ⟨(s).toArray⟩ := ((p12.ne rfl).trans ((p11.ne rfl).trans ((p10.ne rfl).trans ((p9.ne rfl).trans ((p8.ne rfl).trans ((p7.ne rfl).trans ((p6.ne rfl).trans ((p5.ne rfl).trans (p4.ne rfl))))))))).trans s0
  replace s1 : a12.eval (.tmp 1) = .int .i64 ((k : Nat) : Int) := ((p12.ne rfl).trans ((p11.ne rfl).trans ((p10.ne rfl).trans ((p9.ne rfl).trans ((p8.ne rfl).trans ((p7.ne rfl).trans ((p6.ne rfl).trans ((p5.ne rfl).trans (p4.ne rfl))))))))).trans s1
  replace s4 : a12.eval (.tmp 4) = .pointer (some ⟨q2, 0, none⟩) := ((p12.ne rfl).trans ((p11.ne rfl).trans ((p10.ne rfl).trans ((p9.ne rfl).trans ((p8.ne rfl).trans ((p7.ne rfl).trans ((p6.ne rfl).trans ((p5.ne rfl).trans (p4.ne rfl))))))))).trans s4
  replace s5 : a12.eval (.tmp 5) = .int .i64 0 := ((p12.ne rfl).trans ((p11.ne rfl).trans ((p10.ne rfl).trans ((p9.ne rfl).trans ((p8.ne rfl).trans ((p7.ne rfl).trans ((p6.ne rfl).trans ((p5.ne rfl).trans (p4.ne rfl))))))))).trans s5
  replace s6 : a12.eval (.tmp 6) = .bool false := ((p12.ne rfl).trans ((p11.ne rfl).trans ((p10.ne rfl).trans ((p9.ne rfl).trans ((p8.ne rfl).trans ((p7.ne rfl).trans ((p6.ne rfl).trans ((p5.ne rfl).trans (p4.ne rfl))))))))).trans s6
  refine hK5 _ _ ?_
  clear hK5
  by_cases hc6 : (((s).length : Nat) : Int) - 4 < ((k : Nat) : Int)
  · replace s21 := s21.trans (congrArg Value.bool (decide_eq_true hc6))
    replace s21 : a12.eval (.tmp 21) = .bool true := s21
    refine c_true s21 ?_
    refine wp_seq_k fun K7 hK7 => ?_
    refine wp_region_lit ?_
    refine q_val rfl rfl ?_
    refine g_build (cells := #[.int .i64 0, .int .i64 0, .string ⟨#[]⟩]) rfl (arrB0 ) (by kernel_rfl) ?_
    intro a13 p13
    have s22 : a13.eval (.tmp 22) = .agg #[.int .i64 0, .int .i64 0, .string ⟨#[]⟩] := p13.at hs (by decide)
    replace hs := p13.st hs
    refine q_eff rfl rfl ?_
    refine g_storeB rfl ((p13.ne rfl).trans s4) s22 Try.sizeOf32 rfl rfl h_q2 rfl ?_
    intro w8 W_w8
    replace h_q2 := W_w8.here
    replace hB := below_wrote hB hB.size W_w8 g_q2.le
    clear W_w8
    refine q_val rfl rfl ?_
    refine g_assign rfl rfl ?_
    intro a14 p14
    have s5 : a14.eval (.tmp 5) = .int .i64 0 := p14.at hs (by decide)
    replace hs := p14.st hs
    refine q_val rfl rfl ?_
    refine g_assign rfl rfl ?_
    intro a15 p15
    have s6 : a15.eval (.tmp 6) = .bool false := p15.at hs (by decide)
    replace hs := p15.st hs
    refine wpList_nil ?_
    replace s0 : a15.eval (.tmp 0) = .string ⟨(s).toArray⟩ := ((p15.ne rfl).trans ((p14.ne rfl).trans (p13.ne rfl))).trans s0
    replace s1 : a15.eval (.tmp 1) = .int .i64 ((k : Nat) : Int) := ((p15.ne rfl).trans ((p14.ne rfl).trans (p13.ne rfl))).trans s1
    replace s4 : a15.eval (.tmp 4) = .pointer (some ⟨q2, 0, none⟩) := ((p15.ne rfl).trans ((p14.ne rfl).trans (p13.ne rfl))).trans s4
    replace s5 : a15.eval (.tmp 5) = .int .i64 0 := (p15.ne rfl).trans s5
    refine hK7 _ _ ?_
    clear hK7
    refine wp_ret ?_
    try dsimp only [Exit.then, Exit.inBlock]
    refine ret3 hs Try.results24 (res_cell s4 h_q2 Try.isAgg32 Try.sizeOf32 rfl) (res_tmp s5) (res_tmp s6) ?_
    have e : dec0 (s.drop k) = none := by first | exact dec0_short (by omega) | (rw [dec0_at (by omega), if_neg (by omega)])
    obtain ⟨e1, e2, e3⟩ := dp_none e
    exact ⟨by rw [e1, e2, e3]; rfl, hB⟩
  · replace s21 := s21.trans (congrArg Value.bool (decide_eq_false hc6))
    replace s21 : a12.eval (.tmp 21) = .bool false := s21
    refine c_false s21 ?_
    refine wp_skip ?_
    refine hK4 _ _ ?_
    clear hK4
    refine wp_seq_k fun K9 hK9 => ?_
    refine wp_region_lit ?_
    refine q_val rfl rfl ?_
    refine g_move rfl s0 ?_
    intro a13 p13
    have s24 : a13.eval (.tmp 24) = .string ⟨(s).toArray⟩ := p13.at hs (by decide)
    replace hs := p13.st hs
    refine q_val rfl rfl ?_
    refine g_move rfl ((p13.ne rfl).trans s1) ?_
    intro a14 p14
    have s25 : a14.eval (.tmp 25) = .int .i64 ((k : Nat) : Int) := p14.at hs (by decide)
    replace hs := p14.st hs
    refine q_val rfl rfl ?_
    refine g_call rfl rfl Try.call48 (arr3 ((p14.ne rfl).trans s24) s25 rfl) ?_
    refine (getWord1 s ((k : Nat) : Int) _ (by omega) (by omega) (by omega)).mono ?_
    rintro e w' ⟨rfl, rfl⟩
    refine ⟨_, rfl, ?_⟩
    intro a15 p15
    have s26 : a15.eval (.tmp 26) = .tuple #[.int .i64 (nth s ((k : Nat) : Int)), .bool true] := p15.at hs (by decide)
    replace hs := p15.st hs
    refine q_val rfl rfl ?_
    refine g_move rfl s26 ?_
    intro a16 p16
    have s23 : a16.eval (.tmp 23) = .tuple #[.int .i64 (nth s ((k : Nat) : Int)), .bool true] := p16.at hs (by decide)
    replace hs := p16.st hs
    refine q_val rfl rfl ?_
    refine g_extract rfl s23 rfl ?_
    intro a17 p17
    have s27 : a17.eval (.tmp 27) = .int .i64 (nth s ((k : Nat) : Int)) := p17.at hs (by decide)
    replace hs := p17.st hs
    refine q_val rfl rfl ?_
    refine g_extract rfl ((p17.ne rfl).trans s23) rfl ?_
    intro a18 p18
    have s28 : a18.eval (.tmp 28) = .bool true := p18.at hs (by decide)
    replace hs := p18.st hs
    refine q_val rfl rfl ?_
    refine g_assign rfl ((p18.ne rfl).trans s27) ?_
    intro a19 p19
    have s7 : a19.eval (.tmp 7) = .int .i64 (nth s ((k : Nat) : Int)) := p19.at hs (by decide)
    replace hs := p19.st hs
    refine q_val rfl rfl ?_
    refine g_assign rfl ((p19.ne rfl).trans s28) ?_
    intro a20 p20
    have s8 : a20.eval (.tmp 8) = .bool true := p20.at hs (by decide)
    replace hs := p20.st hs
    refine wpList_nil ?_
    replace s0 : a20.eval (.tmp 0) = .string ⟨(s).toArray⟩ := ((p20.ne rfl).trans ((p19.ne rfl).trans ((p18.ne rfl).trans ((p17.ne rfl).trans ((p16.ne rfl).trans ((p15.ne rfl).trans ((p14.ne rfl).trans (p13.ne rfl)))))))).trans s0
    replace s1 : a20.eval (.tmp 1) = .int .i64 ((k : Nat) : Int) := ((p20.ne rfl).trans ((p19.ne rfl).trans ((p18.ne rfl).trans ((p17.ne rfl).trans ((p16.ne rfl).trans ((p15.ne rfl).trans ((p14.ne rfl).trans (p13.ne rfl)))))))).trans s1
    replace s4 : a20.eval (.tmp 4) = .pointer (some ⟨q2, 0, none⟩) := ((p20.ne rfl).trans ((p19.ne rfl).trans ((p18.ne rfl).trans ((p17.ne rfl).trans ((p16.ne rfl).trans ((p15.ne rfl).trans ((p14.ne rfl).trans (p13.ne rfl)))))))).trans s4
    replace s5 : a20.eval (.tmp 5) = .int .i64 0 := ((p20.ne rfl).trans ((p19.ne rfl).trans ((p18.ne rfl).trans ((p17.ne rfl).trans ((p16.ne rfl).trans ((p15.ne rfl).trans ((p14.ne rfl).trans (p13.ne rfl)))))))).trans s5
    replace s6 : a20.eval (.tmp 6) = .bool false := ((p20.ne rfl).trans ((p19.ne rfl).trans ((p18.ne rfl).trans ((p17.ne rfl).trans ((p16.ne rfl).trans ((p15.ne rfl).trans ((p14.ne rfl).trans (p13.ne rfl)))))))).trans s6
    replace s7 : a20.eval (.tmp 7) = .int .i64 (nth s ((k : Nat) : Int)) := (p20.ne rfl).trans s7
    refine hK9 _ _ ?_
    clear hK9
    refine wp_seq_k fun K10 hK10 => ?_
    refine wp_region_lit ?_
    refine q_val rfl rfl ?_
    refine g_move rfl s0 ?_
    intro a21 p21
    have s30 : a21.eval (.tmp 30) = .string ⟨(s).toArray⟩ := p21.at hs (by decide)
    replace hs := p21.st hs
    refine q_val rfl rfl ?_
    refine g_move rfl ((p21.ne rfl).trans s1) ?_
    intro a22 p22
    have s31 : a22.eval (.tmp 31) = .int .i64 ((k : Nat) : Int) := p22.at hs (by decide)
    replace hs := p22.st hs
    refine q_val rfl rfl ?_
    refine g_add (r := ((k + 1 : Nat) : Int)) rfl s31 rfl (by omega) (by omega) ?_
    intro a23 p23
    have s32 : a23.eval (.tmp 32) = .int .i64 ((k + 1 : Nat) : Int) := p23.at hs (by decide)
    replace hs := p23.st hs
    refine q_val rfl rfl ?_
    refine g_call rfl rfl Try.call48 (arr3 (((p23.ne rfl).trans (p22.ne rfl)).trans s30) s32 rfl) ?_
    refine (getWord2 s ((k + 1 : Nat) : Int) _ (by omega) (by omega) (by omega)).mono ?_
    rintro e w' ⟨rfl, rfl⟩
    refine ⟨_, rfl, ?_⟩
    intro a24 p24
    have s33 : a24.eval (.tmp 33) = .tuple #[.int .i64 (nth s ((k + 1 : Nat) : Int) * 256 + nth s (((k + 1 : Nat) : Int) + 1)), .bool true] := p24.at hs (by decide)
    replace hs := p24.st hs
    refine q_val rfl rfl ?_
    refine g_move rfl s33 ?_
    intro a25 p25
    have s29 : a25.eval (.tmp 29) = .tuple #[.int .i64 (nth s ((k + 1 : Nat) : Int) * 256 + nth s (((k + 1 : Nat) : Int) + 1)), .bool true] := p25.at hs (by decide)
    replace hs := p25.st hs
    refine q_val rfl rfl ?_
    refine g_extract rfl s29 rfl ?_
    intro a26 p26
    have s34 : a26.eval (.tmp 34) = .int .i64 (nth s ((k + 1 : Nat) : Int) * 256 + nth s (((k + 1 : Nat) : Int) + 1)) := p26.at hs (by decide)
    replace hs := p26.st hs
    refine q_val rfl rfl ?_
    refine g_extract rfl ((p26.ne rfl).trans s29) rfl ?_
    intro a27 p27
    have s35 : a27.eval (.tmp 35) = .bool true := p27.at hs (by decide)
    replace hs := p27.st hs
    refine q_val rfl rfl ?_
    refine g_assign rfl ((p27.ne rfl).trans s34) ?_
    intro a28 p28
    have s9 : a28.eval (.tmp 9) = .int .i64 (nth s ((k + 1 : Nat) : Int) * 256 + nth s (((k + 1 : Nat) : Int) + 1)) := p28.at hs (by decide)
    replace hs := p28.st hs
    refine q_val rfl rfl ?_
    refine g_assign rfl ((p28.ne rfl).trans s35) ?_
    intro a29 p29
    have s10 : a29.eval (.tmp 10) = .bool true := p29.at hs (by decide)
    replace hs := p29.st hs
    refine wpList_nil ?_
    replace s0 : a29.eval (.tmp 0) = .string ⟨(s).toArray⟩ := ((p29.ne rfl).trans ((p28.ne rfl).trans ((p27.ne rfl).trans ((p26.ne rfl).trans ((p25.ne rfl).trans ((p24.ne rfl).trans ((p23.ne rfl).trans ((p22.ne rfl).trans (p21.ne rfl))))))))).trans s0
    replace s1 : a29.eval (.tmp 1) = .int .i64 ((k : Nat) : Int) := ((p29.ne rfl).trans ((p28.ne rfl).trans ((p27.ne rfl).trans ((p26.ne rfl).trans ((p25.ne rfl).trans ((p24.ne rfl).trans ((p23.ne rfl).trans ((p22.ne rfl).trans (p21.ne rfl))))))))).trans s1
    replace s4 : a29.eval (.tmp 4) = .pointer (some ⟨q2, 0, none⟩) := ((p29.ne rfl).trans ((p28.ne rfl).trans ((p27.ne rfl).trans ((p26.ne rfl).trans ((p25.ne rfl).trans ((p24.ne rfl).trans ((p23.ne rfl).trans ((p22.ne rfl).trans (p21.ne rfl))))))))).trans s4
    replace s5 : a29.eval (.tmp 5) = .int .i64 0 := ((p29.ne rfl).trans ((p28.ne rfl).trans ((p27.ne rfl).trans ((p26.ne rfl).trans ((p25.ne rfl).trans ((p24.ne rfl).trans ((p23.ne rfl).trans ((p22.ne rfl).trans (p21.ne rfl))))))))).trans s5
    replace s6 : a29.eval (.tmp 6) = .bool false := ((p29.ne rfl).trans ((p28.ne rfl).trans ((p27.ne rfl).trans ((p26.ne rfl).trans ((p25.ne rfl).trans ((p24.ne rfl).trans ((p23.ne rfl).trans ((p22.ne rfl).trans (p21.ne rfl))))))))).trans s6
    replace s7 : a29.eval (.tmp 7) = .int .i64 (nth s ((k : Nat) : Int)) := ((p29.ne rfl).trans ((p28.ne rfl).trans ((p27.ne rfl).trans ((p26.ne rfl).trans ((p25.ne rfl).trans ((p24.ne rfl).trans ((p23.ne rfl).trans ((p22.ne rfl).trans (p21.ne rfl))))))))).trans s7
    replace s9 : a29.eval (.tmp 9) = .int .i64 (nth s ((k + 1 : Nat) : Int) * 256 + nth s (((k + 1 : Nat) : Int) + 1)) := (p29.ne rfl).trans s9
    refine hK10 _ _ ?_
    clear hK10
    refine wp_seq_k fun K11 hK11 => ?_
    refine wp_region_lit ?_
    refine q_val rfl rfl ?_
    refine g_move rfl s0 ?_
    intro a30 p30
    have s37 : a30.eval (.tmp 37) = .string ⟨(s).toArray⟩ := p30.at hs (by decide)
    replace hs := p30.st hs
    refine q_val rfl rfl ?_
    refine g_move rfl ((p30.ne rfl).trans s1) ?_
    intro a31 p31
    have s38 : a31.eval (.tmp 38) = .int .i64 ((k : Nat) : Int) := p31.at hs (by decide)
    replace hs := p31.st hs
    refine q_val rfl rfl ?_
    refine g_add (r := ((k + 3 : Nat) : Int)) rfl s38 rfl (by omega) (by omega) ?_
    intro a32 p32
    have s39 : a32.eval (.tmp 39) = .int .i64 ((k + 3 : Nat) : Int) := p32.at hs (by decide)
    replace hs := p32.st hs
    refine q_val rfl rfl ?_
    refine g_call rfl rfl Try.call48 (arr3 (((p32.ne rfl).trans (p31.ne rfl)).trans s37) s39 rfl) ?_
    refine (getWord1 s ((k + 3 : Nat) : Int) _ (by omega) (by omega) (by omega)).mono ?_
    rintro e w' ⟨rfl, rfl⟩
    refine ⟨_, rfl, ?_⟩
    intro a33 p33
    have s40 : a33.eval (.tmp 40) = .tuple #[.int .i64 (nth s ((k + 3 : Nat) : Int)), .bool true] := p33.at hs (by decide)
    replace hs := p33.st hs
    refine q_val rfl rfl ?_
    refine g_move rfl s40 ?_
    intro a34 p34
    have s36 : a34.eval (.tmp 36) = .tuple #[.int .i64 (nth s ((k + 3 : Nat) : Int)), .bool true] := p34.at hs (by decide)
    replace hs := p34.st hs
    refine q_val rfl rfl ?_
    refine g_extract rfl s36 rfl ?_
    intro a35 p35
    have s41 : a35.eval (.tmp 41) = .int .i64 (nth s ((k + 3 : Nat) : Int)) := p35.at hs (by decide)
    replace hs := p35.st hs
    refine q_val rfl rfl ?_
    refine g_extract rfl ((p35.ne rfl).trans s36) rfl ?_
    intro a36 p36
    have s42 : a36.eval (.tmp 42) = .bool true := p36.at hs (by decide)
    replace hs := p36.st hs
    refine q_val rfl rfl ?_
    refine g_assign rfl ((p36.ne rfl).trans s41) ?_
    intro a37 p37
    have s11 : a37.eval (.tmp 11) = .int .i64 (nth s ((k + 3 : Nat) : Int)) := p37.at hs (by decide)
    replace hs := p37.st hs
    refine q_val rfl rfl ?_
    refine g_assign rfl ((p37.ne rfl).trans s42) ?_
    intro a38 p38
    have s12 : a38.eval (.tmp 12) = .bool true := p38.at hs (by decide)
    replace hs := p38.st hs
    refine wpList_nil ?_
    replace s0 : a38.eval (.tmp 0) = .string ⟨(s).toArray⟩ := ((p38.ne rfl).trans ((p37.ne rfl).trans ((p36.ne rfl).trans ((p35.ne rfl).trans ((p34.ne rfl).trans ((p33.ne rfl).trans ((p32.ne rfl).trans ((p31.ne rfl).trans (p30.ne rfl))))))))).trans s0
    replace s1 : a38.eval (.tmp 1) = .int .i64 ((k : Nat) : Int) := ((p38.ne rfl).trans ((p37.ne rfl).trans ((p36.ne rfl).trans ((p35.ne rfl).trans ((p34.ne rfl).trans ((p33.ne rfl).trans ((p32.ne rfl).trans ((p31.ne rfl).trans (p30.ne rfl))))))))).trans s1
    replace s4 : a38.eval (.tmp 4) = .pointer (some ⟨q2, 0, none⟩) := ((p38.ne rfl).trans ((p37.ne rfl).trans ((p36.ne rfl).trans ((p35.ne rfl).trans ((p34.ne rfl).trans ((p33.ne rfl).trans ((p32.ne rfl).trans ((p31.ne rfl).trans (p30.ne rfl))))))))).trans s4
    replace s5 : a38.eval (.tmp 5) = .int .i64 0 := ((p38.ne rfl).trans ((p37.ne rfl).trans ((p36.ne rfl).trans ((p35.ne rfl).trans ((p34.ne rfl).trans ((p33.ne rfl).trans ((p32.ne rfl).trans ((p31.ne rfl).trans (p30.ne rfl))))))))).trans s5
    replace s6 : a38.eval (.tmp 6) = .bool false := ((p38.ne rfl).trans ((p37.ne rfl).trans ((p36.ne rfl).trans ((p35.ne rfl).trans ((p34.ne rfl).trans ((p33.ne rfl).trans ((p32.ne rfl).trans ((p31.ne rfl).trans (p30.ne rfl))))))))).trans s6
    replace s7 : a38.eval (.tmp 7) = .int .i64 (nth s ((k : Nat) : Int)) := ((p38.ne rfl).trans ((p37.ne rfl).trans ((p36.ne rfl).trans ((p35.ne rfl).trans ((p34.ne rfl).trans ((p33.ne rfl).trans ((p32.ne rfl).trans ((p31.ne rfl).trans (p30.ne rfl))))))))).trans s7
    replace s9 : a38.eval (.tmp 9) = .int .i64 (nth s ((k + 1 : Nat) : Int) * 256 + nth s (((k + 1 : Nat) : Int) + 1)) := ((p38.ne rfl).trans ((p37.ne rfl).trans ((p36.ne rfl).trans ((p35.ne rfl).trans ((p34.ne rfl).trans ((p33.ne rfl).trans ((p32.ne rfl).trans ((p31.ne rfl).trans (p30.ne rfl))))))))).trans s9
    replace s11 : a38.eval (.tmp 11) = .int .i64 (nth s ((k + 3 : Nat) : Int)) := (p38.ne rfl).trans s11
    refine hK11 _ _ ?_
    clear hK11
    refine wp_seq_k fun K12 hK12 => ?_
    refine wp_seq_k fun K13 hK13 => ?_
    have n0 := nth_lo s ((k : Nat) : Int)
    have n1 := nth_hi s ((k : Nat) : Int)
    have n2 := nth_lo s ((k + 3 : Nat) : Int)
    have n3 := nth_hi s ((k + 3 : Nat) : Int)
    obtain ⟨m, hm⟩ := Int.eq_ofNat_of_zero_le n2
    refine wp_region_lit ?_
    refine q_val rfl rfl ?_
    refine g_move rfl s7 ?_
    intro a39 p39
    have s43 : a39.eval (.tmp 43) = .int .i64 (nth s ((k : Nat) : Int)) := p39.at hs (by decide)
    replace hs := p39.st hs
    refine q_val rfl rfl ?_
    refine g_gtr rfl s43 rfl ?_
    intro a40 p40
    have s44 : a40.eval (.tmp 44) = .bool (decide (15 < nth s ((k : Nat) : Int))) := p40.at hs (by decide)
    replace hs := p40.st hs
    refine q_val rfl rfl ?_
    refine g_move rfl s44 ?_
    intro a41 p41
    have s45 : a41.eval (.tmp 45) = .bool (decide (15 < nth s ((k : Nat) : Int))) := p41.at hs (by decide)
    replace hs := p41.st hs
    by_cases hc14 : 15 < nth s ((k : Nat) : Int)
    · replace s44 := s44.trans (congrArg Value.bool (decide_eq_true hc14))
      replace s44 : a40.eval (.tmp 44) = .bool true := s44
      replace s45 := s45.trans (congrArg Value.bool (decide_eq_true hc14))
      replace s45 : a41.eval (.tmp 45) = .bool true := s45
      refine q_skip rfl rfl s45 rfl ?_
      intro a42 p42
      have s46 : a42.eval (.tmp 46) = undef := p42.at hs (by decide)
      replace hs := p42.st hs
      refine q_skip rfl rfl ((p42.ne rfl).trans s45) rfl ?_
      intro a43 p43
      have s47 : a43.eval (.tmp 47) = undef := p43.at hs (by decide)
      replace hs := p43.st hs
      refine q_val rfl rfl ?_
      refine g_pick_t rfl (((p43.ne rfl).trans (p42.ne rfl)).trans s45) rfl ?_
      intro a44 p44
      have s48 : a44.eval (.tmp 48) = .bool true := p44.at hs (by decide)
      replace hs := p44.st hs
      refine q_val rfl rfl ?_
      refine g_move rfl s48 ?_
      intro a45 p45
      have s49 : a45.eval (.tmp 49) = .bool true := p45.at hs (by decide)
      replace hs := p45.st hs
      refine q_skip rfl rfl s49 rfl ?_
      intro a46 p46
      have s50 : a46.eval (.tmp 50) = undef := p46.at hs (by decide)
      replace hs := p46.st hs
      refine q_skip rfl rfl ((p46.ne rfl).trans s49) rfl ?_
      intro a47 p47
      have s51 : a47.eval (.tmp 51) = undef := p47.at hs (by decide)
      replace hs := p47.st hs
      refine q_skip rfl rfl (((p47.ne rfl).trans (p46.ne rfl)).trans s49) rfl ?_
      intro a48 p48
      have s52 : a48.eval (.tmp 52) = undef := p48.at hs (by decide)
      replace hs := p48.st hs
      refine q_skip rfl rfl (((p48.ne rfl).trans ((p47.ne rfl).trans (p46.ne rfl))).trans s49) rfl ?_
      intro a49 p49
      have s53 : a49.eval (.tmp 53) = undef := p49.at hs (by decide)
      replace hs := p49.st hs
      refine q_skip rfl rfl (((p49.ne rfl).trans ((p48.ne rfl).trans ((p47.ne rfl).trans (p46.ne rfl)))).trans s49) rfl ?_
      intro a50 p50
      have s54 : a50.eval (.tmp 54) = undef := p50.at hs (by decide)
      replace hs := p50.st hs
      refine q_skip rfl rfl (((p50.ne rfl).trans ((p49.ne rfl).trans ((p48.ne rfl).trans ((p47.ne rfl).trans (p46.ne rfl))))).trans s49) rfl ?_
      intro a51 p51
      have s55 : a51.eval (.tmp 55) = undef := p51.at hs (by decide)
      replace hs := p51.st hs
      refine q_skip rfl rfl (((p51.ne rfl).trans ((p50.ne rfl).trans ((p49.ne rfl).trans ((p48.ne rfl).trans ((p47.ne rfl).trans (p46.ne rfl)))))).trans s49) rfl ?_
      intro a52 p52
      have s56 : a52.eval (.tmp 56) = undef := p52.at hs (by decide)
      replace hs := p52.st hs
      refine q_val rfl rfl ?_
      refine g_pick_t rfl (((p52.ne rfl).trans ((p51.ne rfl).trans ((p50.ne rfl).trans ((p49.ne rfl).trans ((p48.ne rfl).trans ((p47.ne rfl).trans (p46.ne rfl))))))).trans s49) rfl ?_
      intro a53 p53
      have s57 : a53.eval (.tmp 57) = .bool true := p53.at hs (by decide)
      replace hs := p53.st hs
      refine wpList_nil ?_
      replace s0 : a53.eval (.tmp 0) = .string ⟨(s).toArray⟩ := ((p53.ne rfl).trans ((p52.ne rfl).trans ((p51.ne rfl).trans ((p50.ne rfl).trans ((p49.ne rfl).trans ((p48.ne rfl).trans ((p47.ne rfl).trans ((p46.ne rfl).trans ((p45.ne rfl).trans ((p44.ne rfl).trans ((p43.ne rfl).trans ((p42.ne rfl).trans ((p41.ne rfl).trans ((p40.ne rfl).trans (p39.ne rfl))))))))))))))).trans s0
      replace s1 : a53.eval (.tmp 1) = .int .i64 ((k : Nat) : Int) := ((p53.ne rfl).trans ((p52.ne rfl).trans ((p51.ne rfl).trans ((p50.ne rfl).trans ((p49.ne rfl).trans ((p48.ne rfl).trans ((p47.ne rfl).trans ((p46.ne rfl).trans ((p45.ne rfl).trans ((p44.ne rfl).trans ((p43.ne rfl).trans ((p42.ne rfl).trans ((p41.ne rfl).trans ((p40.ne rfl).trans (p39.ne rfl))))))))))))))).trans s1
      replace s4 : a53.eval (.tmp 4) = .pointer (some ⟨q2, 0, none⟩) := ((p53.ne rfl).trans ((p52.ne rfl).trans ((p51.ne rfl).trans ((p50.ne rfl).trans ((p49.ne rfl).trans ((p48.ne rfl).trans ((p47.ne rfl).trans ((p46.ne rfl).trans ((p45.ne rfl).trans ((p44.ne rfl).trans ((p43.ne rfl).trans ((p42.ne rfl).trans ((p41.ne rfl).trans ((p40.ne rfl).trans (p39.ne rfl))))))))))))))).trans s4
      replace s5 : a53.eval (.tmp 5) = .int .i64 0 := ((p53.ne rfl).trans ((p52.ne rfl).trans ((p51.ne rfl).trans ((p50.ne rfl).trans ((p49.ne rfl).trans ((p48.ne rfl).trans ((p47.ne rfl).trans ((p46.ne rfl).trans ((p45.ne rfl).trans ((p44.ne rfl).trans ((p43.ne rfl).trans ((p42.ne rfl).trans ((p41.ne rfl).trans ((p40.ne rfl).trans (p39.ne rfl))))))))))))))).trans s5
      replace s6 : a53.eval (.tmp 6) = .bool false := ((p53.ne rfl).trans ((p52.ne rfl).trans ((p51.ne rfl).trans ((p50.ne rfl).trans ((p49.ne rfl).trans ((p48.ne rfl).trans ((p47.ne rfl).trans ((p46.ne rfl).trans ((p45.ne rfl).trans ((p44.ne rfl).trans ((p43.ne rfl).trans ((p42.ne rfl).trans ((p41.ne rfl).trans ((p40.ne rfl).trans (p39.ne rfl))))))))))))))).trans s6
      replace s7 : a53.eval (.tmp 7) = .int .i64 (nth s ((k : Nat) : Int)) := ((p53.ne rfl).trans ((p52.ne rfl).trans ((p51.ne rfl).trans ((p50.ne rfl).trans ((p49.ne rfl).trans ((p48.ne rfl).trans ((p47.ne rfl).trans ((p46.ne rfl).trans ((p45.ne rfl).trans ((p44.ne rfl).trans ((p43.ne rfl).trans ((p42.ne rfl).trans ((p41.ne rfl).trans ((p40.ne rfl).trans (p39.ne rfl))))))))))))))).trans s7
      replace s9 : a53.eval (.tmp 9) = .int .i64 (nth s ((k + 1 : Nat) : Int) * 256 + nth s (((k + 1 : Nat) : Int) + 1)) := ((p53.ne rfl).trans ((p52.ne rfl).trans ((p51.ne rfl).trans ((p50.ne rfl).trans ((p49.ne rfl).trans ((p48.ne rfl).trans ((p47.ne rfl).trans ((p46.ne rfl).trans ((p45.ne rfl).trans ((p44.ne rfl).trans ((p43.ne rfl).trans ((p42.ne rfl).trans ((p41.ne rfl).trans ((p40.ne rfl).trans (p39.ne rfl))))))))))))))).trans s9
      replace s11 : a53.eval (.tmp 11) = .int .i64 (nth s ((k + 3 : Nat) : Int)) := ((p53.ne rfl).trans ((p52.ne rfl).trans ((p51.ne rfl).trans ((p50.ne rfl).trans ((p49.ne rfl).trans ((p48.ne rfl).trans ((p47.ne rfl).trans ((p46.ne rfl).trans ((p45.ne rfl).trans ((p44.ne rfl).trans ((p43.ne rfl).trans ((p42.ne rfl).trans ((p41.ne rfl).trans ((p40.ne rfl).trans (p39.ne rfl))))))))))))))).trans s11
      refine hK13 _ _ ?_
      clear hK13
      refine c_true s57 ?_
      refine wp_seq_k fun K15 hK15 => ?_
      refine wp_region_lit ?_
      refine q_val rfl rfl ?_
      refine g_build (cells := #[.int .i64 0, .int .i64 0, .string ⟨#[]⟩]) rfl (arrB0 ) (by kernel_rfl) ?_
      intro a54 p54
      have s58 : a54.eval (.tmp 58) = .agg #[.int .i64 0, .int .i64 0, .string ⟨#[]⟩] := p54.at hs (by decide)
      replace hs := p54.st hs
      refine q_eff rfl rfl ?_
      refine g_storeB rfl ((p54.ne rfl).trans s4) s58 Try.sizeOf32 rfl rfl h_q2 rfl ?_
      intro w16 W_w16
      replace h_q2 := W_w16.here
      replace hB := below_wrote hB hB.size W_w16 g_q2.le
      clear W_w16
      refine q_val rfl rfl ?_
      refine g_assign rfl rfl ?_
      intro a55 p55
      have s5 : a55.eval (.tmp 5) = .int .i64 0 := p55.at hs (by decide)
      replace hs := p55.st hs
      refine q_val rfl rfl ?_
      refine g_assign rfl rfl ?_
      intro a56 p56
      have s6 : a56.eval (.tmp 6) = .bool false := p56.at hs (by decide)
      replace hs := p56.st hs
      refine wpList_nil ?_
      replace s0 : a56.eval (.tmp 0) = .string ⟨(s).toArray⟩ := ((p56.ne rfl).trans ((p55.ne rfl).trans (p54.ne rfl))).trans s0
      replace s1 : a56.eval (.tmp 1) = .int .i64 ((k : Nat) : Int) := ((p56.ne rfl).trans ((p55.ne rfl).trans (p54.ne rfl))).trans s1
      replace s4 : a56.eval (.tmp 4) = .pointer (some ⟨q2, 0, none⟩) := ((p56.ne rfl).trans ((p55.ne rfl).trans (p54.ne rfl))).trans s4
      replace s5 : a56.eval (.tmp 5) = .int .i64 0 := (p56.ne rfl).trans s5
      replace s7 : a56.eval (.tmp 7) = .int .i64 (nth s ((k : Nat) : Int)) := ((p56.ne rfl).trans ((p55.ne rfl).trans (p54.ne rfl))).trans s7
      replace s9 : a56.eval (.tmp 9) = .int .i64 (nth s ((k + 1 : Nat) : Int) * 256 + nth s (((k + 1 : Nat) : Int) + 1)) := ((p56.ne rfl).trans ((p55.ne rfl).trans (p54.ne rfl))).trans s9
      replace s11 : a56.eval (.tmp 11) = .int .i64 (nth s ((k + 3 : Nat) : Int)) := ((p56.ne rfl).trans ((p55.ne rfl).trans (p54.ne rfl))).trans s11
      refine hK15 _ _ ?_
      clear hK15
      refine wp_ret ?_
      try dsimp only [Exit.then, Exit.inBlock]
      refine ret3 hs Try.results24 (res_cell s4 h_q2 Try.isAgg32 Try.sizeOf32 rfl) (res_tmp s5) (res_tmp s6) ?_
      have e : dec0 (s.drop k) = none := by first | exact dec0_short (by omega) | (rw [dec0_at (by omega), if_neg (by omega)])
      obtain ⟨e1, e2, e3⟩ := dp_none e
      exact ⟨by rw [e1, e2, e3]; rfl, hB⟩
    · replace s44 := s44.trans (congrArg Value.bool (decide_eq_false hc14))
      replace s44 : a40.eval (.tmp 44) = .bool false := s44
      replace s45 := s45.trans (congrArg Value.bool (decide_eq_false hc14))
      replace s45 : a41.eval (.tmp 45) = .bool false := s45
      refine q_take rfl rfl s45 rfl ?_
      refine g_move rfl (((p41.ne rfl).trans ((p40.ne rfl).trans (p39.ne rfl))).trans s11) ?_
      intro a42 p42
      have s46 : a42.eval (.tmp 46) = .int .i64 (nth s ((k + 3 : Nat) : Int)) := p42.at hs (by decide)
      replace hs := p42.st hs
      refine q_take rfl rfl ((p42.ne rfl).trans s45) rfl ?_
      refine g_gtr rfl s46 rfl ?_
      intro a43 p43
      have s47 : a43.eval (.tmp 47) = .bool (decide (40 < nth s ((k + 3 : Nat) : Int))) := p43.at hs (by decide)
      replace hs := p43.st hs
      refine q_val rfl rfl ?_
      refine g_pick_f rfl (((p43.ne rfl).trans (p42.ne rfl)).trans s45) s47 ?_
      intro a44 p44
      have s48 : a44.eval (.tmp 48) = .bool (decide (40 < nth s ((k + 3 : Nat) : Int))) := p44.at hs (by decide)
      replace hs := p44.st hs
      refine q_val rfl rfl ?_
      refine g_move rfl s48 ?_
      intro a45 p45
      have s49 : a45.eval (.tmp 49) = .bool (decide (40 < nth s ((k + 3 : Nat) : Int))) := p45.at hs (by decide)
      replace hs := p45.st hs
      by_cases hc17 : 40 < nth s ((k + 3 : Nat) : Int)
      · replace s47 := s47.trans (congrArg Value.bool (decide_eq_true hc17))
        replace s47 : a43.eval (.tmp 47) = .bool true := s47
        replace s48 := s48.trans (congrArg Value.bool (decide_eq_true hc17))
        replace s48 : a44.eval (.tmp 48) = .bool true := s48
        replace s49 := s49.trans (congrArg Value.bool (decide_eq_true hc17))
        replace s49 : a45.eval (.tmp 49) = .bool true := s49
        refine q_skip rfl rfl s49 rfl ?_
        intro a46 p46
        have s50 : a46.eval (.tmp 50) = undef := p46.at hs (by decide)
        replace hs := p46.st hs
        refine q_skip rfl rfl ((p46.ne rfl).trans s49) rfl ?_
        intro a47 p47
        have s51 : a47.eval (.tmp 51) = undef := p47.at hs (by decide)
        replace hs := p47.st hs
        refine q_skip rfl rfl (((p47.ne rfl).trans (p46.ne rfl)).trans s49) rfl ?_
        intro a48 p48
        have s52 : a48.eval (.tmp 52) = undef := p48.at hs (by decide)
        replace hs := p48.st hs
        refine q_skip rfl rfl (((p48.ne rfl).trans ((p47.ne rfl).trans (p46.ne rfl))).trans s49) rfl ?_
        intro a49 p49
        have s53 : a49.eval (.tmp 53) = undef := p49.at hs (by decide)
        replace hs := p49.st hs
        refine q_skip rfl rfl (((p49.ne rfl).trans ((p48.ne rfl).trans ((p47.ne rfl).trans (p46.ne rfl)))).trans s49) rfl ?_
        intro a50 p50
        have s54 : a50.eval (.tmp 54) = undef := p50.at hs (by decide)
        replace hs := p50.st hs
        refine q_skip rfl rfl (((p50.ne rfl).trans ((p49.ne rfl).trans ((p48.ne rfl).trans ((p47.ne rfl).trans (p46.ne rfl))))).trans s49) rfl ?_
        intro a51 p51
        have s55 : a51.eval (.tmp 55) = undef := p51.at hs (by decide)
        replace hs := p51.st hs
        refine q_skip rfl rfl (((p51.ne rfl).trans ((p50.ne rfl).trans ((p49.ne rfl).trans ((p48.ne rfl).trans ((p47.ne rfl).trans (p46.ne rfl)))))).trans s49) rfl ?_
        intro a52 p52
        have s56 : a52.eval (.tmp 56) = undef := p52.at hs (by decide)
        replace hs := p52.st hs
        refine q_val rfl rfl ?_
        refine g_pick_t rfl (((p52.ne rfl).trans ((p51.ne rfl).trans ((p50.ne rfl).trans ((p49.ne rfl).trans ((p48.ne rfl).trans ((p47.ne rfl).trans (p46.ne rfl))))))).trans s49) rfl ?_
        intro a53 p53
        have s57 : a53.eval (.tmp 57) = .bool true := p53.at hs (by decide)
        replace hs := p53.st hs
        refine wpList_nil ?_
        replace s0 : a53.eval (.tmp 0) = .string ⟨(s).toArray⟩ := ((p53.ne rfl).trans ((p52.ne rfl).trans ((p51.ne rfl).trans ((p50.ne rfl).trans ((p49.ne rfl).trans ((p48.ne rfl).trans ((p47.ne rfl).trans ((p46.ne rfl).trans ((p45.ne rfl).trans ((p44.ne rfl).trans ((p43.ne rfl).trans ((p42.ne rfl).trans ((p41.ne rfl).trans ((p40.ne rfl).trans (p39.ne rfl))))))))))))))).trans s0
        replace s1 : a53.eval (.tmp 1) = .int .i64 ((k : Nat) : Int) := ((p53.ne rfl).trans ((p52.ne rfl).trans ((p51.ne rfl).trans ((p50.ne rfl).trans ((p49.ne rfl).trans ((p48.ne rfl).trans ((p47.ne rfl).trans ((p46.ne rfl).trans ((p45.ne rfl).trans ((p44.ne rfl).trans ((p43.ne rfl).trans ((p42.ne rfl).trans ((p41.ne rfl).trans ((p40.ne rfl).trans (p39.ne rfl))))))))))))))).trans s1
        replace s4 : a53.eval (.tmp 4) = .pointer (some ⟨q2, 0, none⟩) := ((p53.ne rfl).trans ((p52.ne rfl).trans ((p51.ne rfl).trans ((p50.ne rfl).trans ((p49.ne rfl).trans ((p48.ne rfl).trans ((p47.ne rfl).trans ((p46.ne rfl).trans ((p45.ne rfl).trans ((p44.ne rfl).trans ((p43.ne rfl).trans ((p42.ne rfl).trans ((p41.ne rfl).trans ((p40.ne rfl).trans (p39.ne rfl))))))))))))))).trans s4
        replace s5 : a53.eval (.tmp 5) = .int .i64 0 := ((p53.ne rfl).trans ((p52.ne rfl).trans ((p51.ne rfl).trans ((p50.ne rfl).trans ((p49.ne rfl).trans ((p48.ne rfl).trans ((p47.ne rfl).trans ((p46.ne rfl).trans ((p45.ne rfl).trans ((p44.ne rfl).trans ((p43.ne rfl).trans ((p42.ne rfl).trans ((p41.ne rfl).trans ((p40.ne rfl).trans (p39.ne rfl))))))))))))))).trans s5
        replace s6 : a53.eval (.tmp 6) = .bool false := ((p53.ne rfl).trans ((p52.ne rfl).trans ((p51.ne rfl).trans ((p50.ne rfl).trans ((p49.ne rfl).trans ((p48.ne rfl).trans ((p47.ne rfl).trans ((p46.ne rfl).trans ((p45.ne rfl).trans ((p44.ne rfl).trans ((p43.ne rfl).trans ((p42.ne rfl).trans ((p41.ne rfl).trans ((p40.ne rfl).trans (p39.ne rfl))))))))))))))).trans s6
        replace s7 : a53.eval (.tmp 7) = .int .i64 (nth s ((k : Nat) : Int)) := ((p53.ne rfl).trans ((p52.ne rfl).trans ((p51.ne rfl).trans ((p50.ne rfl).trans ((p49.ne rfl).trans ((p48.ne rfl).trans ((p47.ne rfl).trans ((p46.ne rfl).trans ((p45.ne rfl).trans ((p44.ne rfl).trans ((p43.ne rfl).trans ((p42.ne rfl).trans ((p41.ne rfl).trans ((p40.ne rfl).trans (p39.ne rfl))))))))))))))).trans s7
        replace s9 : a53.eval (.tmp 9) = .int .i64 (nth s ((k + 1 : Nat) : Int) * 256 + nth s (((k + 1 : Nat) : Int) + 1)) := ((p53.ne rfl).trans ((p52.ne rfl).trans ((p51.ne rfl).trans ((p50.ne rfl).trans ((p49.ne rfl).trans ((p48.ne rfl).trans ((p47.ne rfl).trans ((p46.ne rfl).trans ((p45.ne rfl).trans ((p44.ne rfl).trans ((p43.ne rfl).trans ((p42.ne rfl).trans ((p41.ne rfl).trans ((p40.ne rfl).trans (p39.ne rfl))))))))))))))).trans s9
        replace s11 : a53.eval (.tmp 11) = .int .i64 (nth s ((k + 3 : Nat) : Int)) := ((p53.ne rfl).trans ((p52.ne rfl).trans ((p51.ne rfl).trans ((p50.ne rfl).trans ((p49.ne rfl).trans ((p48.ne rfl).trans ((p47.ne rfl).trans ((p46.ne rfl).trans ((p45.ne rfl).trans ((p44.ne rfl).trans ((p43.ne rfl).trans ((p42.ne rfl).trans ((p41.ne rfl).trans ((p40.ne rfl).trans (p39.ne rfl))))))))))))))).trans s11
        refine hK13 _ _ ?_
        clear hK13
        refine c_true s57 ?_
        refine wp_seq_k fun K18 hK18 => ?_
        refine wp_region_lit ?_
        refine q_val rfl rfl ?_
        refine g_build (cells := #[.int .i64 0, .int .i64 0, .string ⟨#[]⟩]) rfl (arrB0 ) (by kernel_rfl) ?_
        intro a54 p54
        have s58 : a54.eval (.tmp 58) = .agg #[.int .i64 0, .int .i64 0, .string ⟨#[]⟩] := p54.at hs (by decide)
        replace hs := p54.st hs
        refine q_eff rfl rfl ?_
        refine g_storeB rfl ((p54.ne rfl).trans s4) s58 Try.sizeOf32 rfl rfl h_q2 rfl ?_
        intro w19 W_w19
        replace h_q2 := W_w19.here
        replace hB := below_wrote hB hB.size W_w19 g_q2.le
        clear W_w19
        refine q_val rfl rfl ?_
        refine g_assign rfl rfl ?_
        intro a55 p55
        have s5 : a55.eval (.tmp 5) = .int .i64 0 := p55.at hs (by decide)
        replace hs := p55.st hs
        refine q_val rfl rfl ?_
        refine g_assign rfl rfl ?_
        intro a56 p56
        have s6 : a56.eval (.tmp 6) = .bool false := p56.at hs (by decide)
        replace hs := p56.st hs
        refine wpList_nil ?_
        replace s0 : a56.eval (.tmp 0) = .string ⟨(s).toArray⟩ := ((p56.ne rfl).trans ((p55.ne rfl).trans (p54.ne rfl))).trans s0
        replace s1 : a56.eval (.tmp 1) = .int .i64 ((k : Nat) : Int) := ((p56.ne rfl).trans ((p55.ne rfl).trans (p54.ne rfl))).trans s1
        replace s4 : a56.eval (.tmp 4) = .pointer (some ⟨q2, 0, none⟩) := ((p56.ne rfl).trans ((p55.ne rfl).trans (p54.ne rfl))).trans s4
        replace s5 : a56.eval (.tmp 5) = .int .i64 0 := (p56.ne rfl).trans s5
        replace s7 : a56.eval (.tmp 7) = .int .i64 (nth s ((k : Nat) : Int)) := ((p56.ne rfl).trans ((p55.ne rfl).trans (p54.ne rfl))).trans s7
        replace s9 : a56.eval (.tmp 9) = .int .i64 (nth s ((k + 1 : Nat) : Int) * 256 + nth s (((k + 1 : Nat) : Int) + 1)) := ((p56.ne rfl).trans ((p55.ne rfl).trans (p54.ne rfl))).trans s9
        replace s11 : a56.eval (.tmp 11) = .int .i64 (nth s ((k + 3 : Nat) : Int)) := ((p56.ne rfl).trans ((p55.ne rfl).trans (p54.ne rfl))).trans s11
        refine hK18 _ _ ?_
        clear hK18
        refine wp_ret ?_
        try dsimp only [Exit.then, Exit.inBlock]
        refine ret3 hs Try.results24 (res_cell s4 h_q2 Try.isAgg32 Try.sizeOf32 rfl) (res_tmp s5) (res_tmp s6) ?_
        have e : dec0 (s.drop k) = none := by first | exact dec0_short (by omega) | (rw [dec0_at (by omega), if_neg (by omega)])
        obtain ⟨e1, e2, e3⟩ := dp_none e
        exact ⟨by rw [e1, e2, e3]; rfl, hB⟩
      · replace s47 := s47.trans (congrArg Value.bool (decide_eq_false hc17))
        replace s47 : a43.eval (.tmp 47) = .bool false := s47
        replace s48 := s48.trans (congrArg Value.bool (decide_eq_false hc17))
        replace s48 : a44.eval (.tmp 48) = .bool false := s48
        replace s49 := s49.trans (congrArg Value.bool (decide_eq_false hc17))
        replace s49 : a45.eval (.tmp 49) = .bool false := s49
        refine q_take rfl rfl s49 rfl ?_
        refine g_move rfl (((p45.ne rfl).trans ((p44.ne rfl).trans ((p43.ne rfl).trans ((p42.ne rfl).trans ((p41.ne rfl).trans ((p40.ne rfl).trans (p39.ne rfl))))))).trans s11) ?_
        intro a46 p46
        have s50 : a46.eval (.tmp 50) = .int .i64 (nth s ((k + 3 : Nat) : Int)) := p46.at hs (by decide)
        replace hs := p46.st hs
        refine q_take rfl rfl ((p46.ne rfl).trans s49) rfl ?_
        refine g_move rfl (((p46.ne rfl).trans ((p45.ne rfl).trans ((p44.ne rfl).trans ((p43.ne rfl).trans ((p42.ne rfl).trans ((p41.ne rfl).trans ((p40.ne rfl).trans (p39.ne rfl)))))))).trans s0) ?_
        intro a47 p47
        have s51 : a47.eval (.tmp 51) = .string ⟨(s).toArray⟩ := p47.at hs (by decide)
        replace hs := p47.st hs
        refine q_take rfl rfl (((p47.ne rfl).trans (p46.ne rfl)).trans s49) rfl ?_
        refine g_lenS rfl Try.underlying9 s51 ?_
        intro a48 p48
        have s52 : a48.eval (.tmp 52) = .int .i64 (((s).length : Nat) : Int) := p48.at hs (by decide)
        replace hs := p48.st hs
        refine q_take rfl rfl (((p48.ne rfl).trans ((p47.ne rfl).trans (p46.ne rfl))).trans s49) rfl ?_
        refine g_move rfl (((p48.ne rfl).trans ((p47.ne rfl).trans ((p46.ne rfl).trans ((p45.ne rfl).trans ((p44.ne rfl).trans ((p43.ne rfl).trans ((p42.ne rfl).trans ((p41.ne rfl).trans ((p40.ne rfl).trans (p39.ne rfl)))))))))).trans s1) ?_
        intro a49 p49
        have s53 : a49.eval (.tmp 53) = .int .i64 ((k : Nat) : Int) := p49.at hs (by decide)
        replace hs := p49.st hs
        refine q_take rfl rfl (((p49.ne rfl).trans ((p48.ne rfl).trans ((p47.ne rfl).trans (p46.ne rfl)))).trans s49) rfl ?_
        refine g_sub (r := (((s).length : Nat) : Int) - ((k : Nat) : Int)) rfl ((p49.ne rfl).trans s52) s53 (by omega) (by omega) ?_
        intro a50 p50
        have s54 : a50.eval (.tmp 54) = .int .i64 ((((s).length : Nat) : Int) - ((k : Nat) : Int)) := p50.at hs (by decide)
        replace hs := p50.st hs
        refine q_take rfl rfl (((p50.ne rfl).trans ((p49.ne rfl).trans ((p48.ne rfl).trans ((p47.ne rfl).trans (p46.ne rfl))))).trans s49) rfl ?_
        refine g_sub (r := ((((s).length : Nat) : Int) - ((k : Nat) : Int)) - 4) rfl s54 rfl (by omega) (by omega) ?_
        intro a51 p51
        have s55 : a51.eval (.tmp 55) = .int .i64 (((((s).length : Nat) : Int) - ((k : Nat) : Int)) - 4) := p51.at hs (by decide)
        replace hs := p51.st hs
        refine q_take rfl rfl (((p51.ne rfl).trans ((p50.ne rfl).trans ((p49.ne rfl).trans ((p48.ne rfl).trans ((p47.ne rfl).trans (p46.ne rfl)))))).trans s49) rfl ?_
        refine g_gtr rfl (((p51.ne rfl).trans ((p50.ne rfl).trans ((p49.ne rfl).trans ((p48.ne rfl).trans (p47.ne rfl))))).trans s50) s55 ?_
        intro a52 p52
        have s56 : a52.eval (.tmp 56) = .bool (decide (((((s).length : Nat) : Int) - ((k : Nat) : Int)) - 4 < nth s ((k + 3 : Nat) : Int))) := p52.at hs (by decide)
        replace hs := p52.st hs
        refine q_val rfl rfl ?_
        refine g_pick_f rfl (((p52.ne rfl).trans ((p51.ne rfl).trans ((p50.ne rfl).trans ((p49.ne rfl).trans ((p48.ne rfl).trans ((p47.ne rfl).trans (p46.ne rfl))))))).trans s49) s56 ?_
        intro a53 p53
        have s57 : a53.eval (.tmp 57) = .bool (decide (((((s).length : Nat) : Int) - ((k : Nat) : Int)) - 4 < nth s ((k + 3 : Nat) : Int))) := p53.at hs (by decide)
        replace hs := p53.st hs
        refine wpList_nil ?_
        replace s0 : a53.eval (.tmp 0) = .string ⟨(s).toArray⟩ := ((p53.ne rfl).trans ((p52.ne rfl).trans ((p51.ne rfl).trans ((p50.ne rfl).trans ((p49.ne rfl).trans ((p48.ne rfl).trans ((p47.ne rfl).trans ((p46.ne rfl).trans ((p45.ne rfl).trans ((p44.ne rfl).trans ((p43.ne rfl).trans ((p42.ne rfl).trans ((p41.ne rfl).trans ((p40.ne rfl).trans (p39.ne rfl))))))))))))))).trans s0
        replace s1 : a53.eval (.tmp 1) = .int .i64 ((k : Nat) : Int) := ((p53.ne rfl).trans ((p52.ne rfl).trans ((p51.ne rfl).trans ((p50.ne rfl).trans ((p49.ne rfl).trans ((p48.ne rfl).trans ((p47.ne rfl).trans ((p46.ne rfl).trans ((p45.ne rfl).trans ((p44.ne rfl).trans ((p43.ne rfl).trans ((p42.ne rfl).trans ((p41.ne rfl).trans ((p40.ne rfl).trans (p39.ne rfl))))))))))))))).trans s1
        replace s4 : a53.eval (.tmp 4) = .pointer (some ⟨q2, 0, none⟩) := ((p53.ne rfl).trans ((p52.ne rfl).trans ((p51.ne rfl).trans ((p50.ne rfl).trans ((p49.ne rfl).trans ((p48.ne rfl).trans ((p47.ne rfl).trans ((p46.ne rfl).trans ((p45.ne rfl).trans ((p44.ne rfl).trans ((p43.ne rfl).trans ((p42.ne rfl).trans ((p41.ne rfl).trans ((p40.ne rfl).trans (p39.ne rfl))))))))))))))).trans s4
        replace s5 : a53.eval (.tmp 5) = .int .i64 0 := ((p53.ne rfl).trans ((p52.ne rfl).trans ((p51.ne rfl).trans ((p50.ne rfl).trans ((p49.ne rfl).trans ((p48.ne rfl).trans ((p47.ne rfl).trans ((p46.ne rfl).trans ((p45.ne rfl).trans ((p44.ne rfl).trans ((p43.ne rfl).trans ((p42.ne rfl).trans ((p41.ne rfl).trans ((p40.ne rfl).trans (p39.ne rfl))))))))))))))).trans s5
        replace s6 : a53.eval (.tmp 6) = .bool false := ((p53.ne rfl).trans ((p52.ne rfl).trans ((p51.ne rfl).trans ((p50.ne rfl).trans ((p49.ne rfl).trans ((p48.ne rfl).trans ((p47.ne rfl).trans ((p46.ne rfl).trans ((p45.ne rfl).trans ((p44.ne rfl).trans ((p43.ne rfl).trans ((p42.ne rfl).trans ((p41.ne rfl).trans ((p40.ne rfl).trans (p39.ne rfl))))))))))))))).trans s6
        replace s7 : a53.eval (.tmp 7) = .int .i64 (nth s ((k : Nat) : Int)) := ((p53.ne rfl).trans ((p52.ne rfl).trans ((p51.ne rfl).trans ((p50.ne rfl).trans ((p49.ne rfl).trans ((p48.ne rfl).trans ((p47.ne rfl).trans ((p46.ne rfl).trans ((p45.ne rfl).trans ((p44.ne rfl).trans ((p43.ne rfl).trans ((p42.ne rfl).trans ((p41.ne rfl).trans ((p40.ne rfl).trans (p39.ne rfl))))))))))))))).trans s7
        replace s9 : a53.eval (.tmp 9) = .int .i64 (nth s ((k + 1 : Nat) : Int) * 256 + nth s (((k + 1 : Nat) : Int) + 1)) := ((p53.ne rfl).trans ((p52.ne rfl).trans ((p51.ne rfl).trans ((p50.ne rfl).trans ((p49.ne rfl).trans ((p48.ne rfl).trans ((p47.ne rfl).trans ((p46.ne rfl).trans ((p45.ne rfl).trans ((p44.ne rfl).trans ((p43.ne rfl).trans ((p42.ne rfl).trans ((p41.ne rfl).trans ((p40.ne rfl).trans (p39.ne rfl))))))))))))))).trans s9
        replace s11 : a53.eval (.tmp 11) = .int .i64 (nth s ((k + 3 : Nat) : Int)) := ((p53.ne rfl).trans ((p52.ne rfl).trans ((p51.ne rfl).trans ((p50.ne rfl).trans ((p49.ne rfl).trans ((p48.ne rfl).trans ((p47.ne rfl).trans ((p46.ne rfl).trans ((p45.ne rfl).trans ((p44.ne rfl).trans ((p43.ne rfl).trans ((p42.ne rfl).trans ((p41.ne rfl).trans ((p40.ne rfl).trans (p39.ne rfl))))))))))))))).trans s11
        refine hK13 _ _ ?_
        clear hK13
        by_cases hc20 : ((((s).length : Nat) : Int) - ((k : Nat) : Int)) - 4 < nth s ((k + 3 : Nat) : Int)
        · replace s57 := s57.trans (congrArg Value.bool (decide_eq_true hc20))
          replace s57 : a53.eval (.tmp 57) = .bool true := s57
          refine c_true s57 ?_
          refine wp_seq_k fun K21 hK21 => ?_
          refine wp_region_lit ?_
          refine q_val rfl rfl ?_
          refine g_build (cells := #[.int .i64 0, .int .i64 0, .string ⟨#[]⟩]) rfl (arrB0 ) (by kernel_rfl) ?_
          intro a54 p54
          have s58 : a54.eval (.tmp 58) = .agg #[.int .i64 0, .int .i64 0, .string ⟨#[]⟩] := p54.at hs (by decide)
          replace hs := p54.st hs
          refine q_eff rfl rfl ?_
          refine g_storeB rfl ((p54.ne rfl).trans s4) s58 Try.sizeOf32 rfl rfl h_q2 rfl ?_
          intro w22 W_w22
          replace h_q2 := W_w22.here
          replace hB := below_wrote hB hB.size W_w22 g_q2.le
          clear W_w22
          refine q_val rfl rfl ?_
          refine g_assign rfl rfl ?_
          intro a55 p55
          have s5 : a55.eval (.tmp 5) = .int .i64 0 := p55.at hs (by decide)
          replace hs := p55.st hs
          refine q_val rfl rfl ?_
          refine g_assign rfl rfl ?_
          intro a56 p56
          have s6 : a56.eval (.tmp 6) = .bool false := p56.at hs (by decide)
          replace hs := p56.st hs
          refine wpList_nil ?_
          replace s0 : a56.eval (.tmp 0) = .string ⟨(s).toArray⟩ := ((p56.ne rfl).trans ((p55.ne rfl).trans (p54.ne rfl))).trans s0
          replace s1 : a56.eval (.tmp 1) = .int .i64 ((k : Nat) : Int) := ((p56.ne rfl).trans ((p55.ne rfl).trans (p54.ne rfl))).trans s1
          replace s4 : a56.eval (.tmp 4) = .pointer (some ⟨q2, 0, none⟩) := ((p56.ne rfl).trans ((p55.ne rfl).trans (p54.ne rfl))).trans s4
          replace s5 : a56.eval (.tmp 5) = .int .i64 0 := (p56.ne rfl).trans s5
          replace s7 : a56.eval (.tmp 7) = .int .i64 (nth s ((k : Nat) : Int)) := ((p56.ne rfl).trans ((p55.ne rfl).trans (p54.ne rfl))).trans s7
          replace s9 : a56.eval (.tmp 9) = .int .i64 (nth s ((k + 1 : Nat) : Int) * 256 + nth s (((k + 1 : Nat) : Int) + 1)) := ((p56.ne rfl).trans ((p55.ne rfl).trans (p54.ne rfl))).trans s9
          replace s11 : a56.eval (.tmp 11) = .int .i64 (nth s ((k + 3 : Nat) : Int)) := ((p56.ne rfl).trans ((p55.ne rfl).trans (p54.ne rfl))).trans s11
          refine hK21 _ _ ?_
          clear hK21
          refine wp_ret ?_
          try dsimp only [Exit.then, Exit.inBlock]
          refine ret3 hs Try.results24 (res_cell s4 h_q2 Try.isAgg32 Try.sizeOf32 rfl) (res_tmp s5) (res_tmp s6) ?_
          have e : dec0 (s.drop k) = none := by first | exact dec0_short (by omega) | (rw [dec0_at (by omega), if_neg (by omega)])
          obtain ⟨e1, e2, e3⟩ := dp_none e
          exact ⟨by rw [e1, e2, e3]; rfl, hB⟩
        · replace s57 := s57.trans (congrArg Value.bool (decide_eq_false hc20))
          replace s57 : a53.eval (.tmp 57) = .bool false := s57
          refine c_false s57 ?_
          refine wp_skip ?_
          refine hK12 _ _ ?_
          clear hK12
          refine wp_seq_k fun K23 hK23 => ?_
          refine wp_region_lit ?_
          refine q_val rfl rfl ?_
          refine g_move rfl s7 ?_
          intro a54 p54
          have s59 : a54.eval (.tmp 59) = .int .i64 (nth s ((k : Nat) : Int)) := p54.at hs (by decide)
          replace hs := p54.st hs
          refine q_val rfl rfl ?_
          refine g_move rfl ((p54.ne rfl).trans s9) ?_
          intro a55 p55
          have s60 : a55.eval (.tmp 60) = .int .i64 (nth s ((k + 1 : Nat) : Int) * 256 + nth s (((k + 1 : Nat) : Int) + 1)) := p55.at hs (by decide)
          replace hs := p55.st hs
          refine q_val rfl rfl ?_
          refine g_move rfl (((p55.ne rfl).trans (p54.ne rfl)).trans s0) ?_
          intro a56 p56
          have s61 : a56.eval (.tmp 61) = .string ⟨(s).toArray⟩ := p56.at hs (by decide)
          replace hs := p56.st hs
          refine q_val rfl rfl ?_
          refine g_move rfl (((p56.ne rfl).trans ((p55.ne rfl).trans (p54.ne rfl))).trans s1) ?_
          intro a57 p57
          have s62 : a57.eval (.tmp 62) = .int .i64 ((k : Nat) : Int) := p57.at hs (by decide)
          replace hs := p57.st hs
          refine q_val rfl rfl ?_
          refine g_add (r := ((k + 4 : Nat) : Int)) rfl s62 rfl (by omega) (by omega) ?_
          intro a58 p58
          have s63 : a58.eval (.tmp 63) = .int .i64 ((k + 4 : Nat) : Int) := p58.at hs (by decide)
          replace hs := p58.st hs
          refine q_val rfl rfl ?_
          refine g_move rfl (((p58.ne rfl).trans ((p57.ne rfl).trans ((p56.ne rfl).trans ((p55.ne rfl).trans (p54.ne rfl))))).trans s1) ?_
          intro a59 p59
          have s64 : a59.eval (.tmp 64) = .int .i64 ((k : Nat) : Int) := p59.at hs (by decide)
          replace hs := p59.st hs
          refine q_val rfl rfl ?_
          refine g_add (r := ((k + 4 : Nat) : Int)) rfl s64 rfl (by omega) (by omega) ?_
          intro a60 p60
          have s65 : a60.eval (.tmp 65) = .int .i64 ((k + 4 : Nat) : Int) := p60.at hs (by decide)
          replace hs := p60.st hs
          refine q_val rfl rfl ?_
          refine g_move rfl (((p60.ne rfl).trans ((p59.ne rfl).trans ((p58.ne rfl).trans ((p57.ne rfl).trans ((p56.ne rfl).trans ((p55.ne rfl).trans (p54.ne rfl))))))).trans s11) ?_
          intro a61 p61
          have s66 : a61.eval (.tmp 66) = .int .i64 (nth s ((k + 3 : Nat) : Int)) := p61.at hs (by decide)
          replace hs := p61.st hs
          refine q_val rfl rfl ?_
          refine g_add (r := ((k + 4 : Nat) : Int) + (nth s ((k + 3 : Nat) : Int))) rfl ((p61.ne rfl).trans s65) s66 (by omega) (by omega) ?_
          intro a62 p62
          have s67 : a62.eval (.tmp 67) = .int .i64 (((k + 4 : Nat) : Int) + (nth s ((k + 3 : Nat) : Int))) := p62.at hs (by decide)
          replace hs := p62.st hs
          refine q_val rfl rfl ?_
          refine g_midS (k := k + 4) (m := (((k + 4 : Nat) : Int) + (nth s ((k + 3 : Nat) : Int))).toNat) rfl (((p62.ne rfl).trans ((p61.ne rfl).trans ((p60.ne rfl).trans ((p59.ne rfl).trans ((p58.ne rfl).trans (p57.ne rfl)))))).trans s61) (((p62.ne rfl).trans ((p61.ne rfl).trans ((p60.ne rfl).trans (p59.ne rfl)))).trans s63) s67 rfl (Int.toNat_of_nonneg (by omega)).symm Try.underlying9 (by omega) (by omega) ?_
          intro a63 p63
          have s68 : a63.eval (.tmp 68) = .string ⟨((s.drop (k + 4)).take (((((k + 4 : Nat) : Int) + (nth s ((k + 3 : Nat) : Int))).toNat) - (k + 4))).toArray⟩ := p63.at hs (by decide)
          replace hs := p63.st hs
          refine q_val rfl rfl ?_
          refine g_build (cells := #[.int .i64 (nth s ((k : Nat) : Int)), .int .i64 (nth s ((k + 1 : Nat) : Int) * 256 + nth s (((k + 1 : Nat) : Int) + 1)), .string ⟨((s.drop (k + 4)).take (((((k + 4 : Nat) : Int) + (nth s ((k + 3 : Nat) : Int))).toNat) - (k + 4))).toArray⟩]) rfl (arrB3 (((p63.ne rfl).trans ((p62.ne rfl).trans ((p61.ne rfl).trans ((p60.ne rfl).trans ((p59.ne rfl).trans ((p58.ne rfl).trans ((p57.ne rfl).trans ((p56.ne rfl).trans (p55.ne rfl))))))))).trans s59) (((p63.ne rfl).trans ((p62.ne rfl).trans ((p61.ne rfl).trans ((p60.ne rfl).trans ((p59.ne rfl).trans ((p58.ne rfl).trans ((p57.ne rfl).trans (p56.ne rfl)))))))).trans s60) s68) (by kernel_rfl) ?_
          intro a64 p64
          have s69 : a64.eval (.tmp 69) = .agg #[.int .i64 (nth s ((k : Nat) : Int)), .int .i64 (nth s ((k + 1 : Nat) : Int) * 256 + nth s (((k + 1 : Nat) : Int) + 1)), .string ⟨((s.drop (k + 4)).take (((((k + 4 : Nat) : Int) + (nth s ((k + 3 : Nat) : Int))).toNat) - (k + 4))).toArray⟩] := p64.at hs (by decide)
          replace hs := p64.st hs
          refine q_val rfl rfl ?_
          refine g_move rfl (((p64.ne rfl).trans ((p63.ne rfl).trans ((p62.ne rfl).trans ((p61.ne rfl).trans ((p60.ne rfl).trans ((p59.ne rfl).trans ((p58.ne rfl).trans ((p57.ne rfl).trans ((p56.ne rfl).trans ((p55.ne rfl).trans (p54.ne rfl))))))))))).trans s11) ?_
          intro a65 p65
          have s70 : a65.eval (.tmp 70) = .int .i64 (nth s ((k + 3 : Nat) : Int)) := p65.at hs (by decide)
          replace hs := p65.st hs
          refine q_val rfl rfl ?_
          refine g_add (r := 4 + (nth s ((k + 3 : Nat) : Int))) rfl rfl s70 (by omega) (by omega) ?_
          intro a66 p66
          have s71 : a66.eval (.tmp 71) = .int .i64 (4 + (nth s ((k + 3 : Nat) : Int))) := p66.at hs (by decide)
          replace hs := p66.st hs
          refine q_eff rfl rfl ?_
          refine g_storeB rfl (((p66.ne rfl).trans ((p65.ne rfl).trans ((p64.ne rfl).trans ((p63.ne rfl).trans ((p62.ne rfl).trans ((p61.ne rfl).trans ((p60.ne rfl).trans ((p59.ne rfl).trans ((p58.ne rfl).trans ((p57.ne rfl).trans ((p56.ne rfl).trans ((p55.ne rfl).trans (p54.ne rfl))))))))))))).trans s4) (((p66.ne rfl).trans (p65.ne rfl)).trans s69) Try.sizeOf32 rfl rfl h_q2 rfl ?_
          intro w24 W_w24
          replace h_q2 := W_w24.here
          replace hB := below_wrote hB hB.size W_w24 g_q2.le
          clear W_w24
          refine q_val rfl rfl ?_
          refine g_assign rfl s71 ?_
          intro a67 p67
          have s5 : a67.eval (.tmp 5) = .int .i64 (4 + (nth s ((k + 3 : Nat) : Int))) := p67.at hs (by decide)
          replace hs := p67.st hs
          refine q_val rfl rfl ?_
          refine g_assign rfl rfl ?_
          intro a68 p68
          have s6 : a68.eval (.tmp 6) = .bool true := p68.at hs (by decide)
          replace hs := p68.st hs
          refine wpList_nil ?_
          replace s4 : a68.eval (.tmp 4) = .pointer (some ⟨q2, 0, none⟩) := ((p68.ne rfl).trans ((p67.ne rfl).trans ((p66.ne rfl).trans ((p65.ne rfl).trans ((p64.ne rfl).trans ((p63.ne rfl).trans ((p62.ne rfl).trans ((p61.ne rfl).trans ((p60.ne rfl).trans ((p59.ne rfl).trans ((p58.ne rfl).trans ((p57.ne rfl).trans ((p56.ne rfl).trans ((p55.ne rfl).trans (p54.ne rfl))))))))))))))).trans s4
          replace s5 : a68.eval (.tmp 5) = .int .i64 (4 + (nth s ((k + 3 : Nat) : Int))) := (p68.ne rfl).trans s5
          refine hK23 _ _ ?_
          clear hK23
          refine wp_ret ?_
          try dsimp only [Exit.then, Exit.inBlock]
          refine ret3 hs Try.results24 (res_cell s4 h_q2 Try.isAgg32 Try.sizeOf32 rfl) (res_tmp s5) (res_tmp s6) ?_
          have e := dec0_at (s := s) (k := k) (by omega)
          rw [if_pos (by omega)] at e
          have hd : ((s.drop (k + 4)).take (nth s ((k + 3 : Nat) : Int)).toNat).length = (nth s ((k + 3 : Nat) : Int)).toNat := by rw [List.length_take, List.length_drop]; omega
          obtain ⟨e1, e2, e3⟩ := dp_some e
          refine ⟨?_, hB⟩
          rw [e1, e2, e3]
          have ht : (((k + 4 : Nat) : Int) + nth s ((k + 3 : Nat) : Int)).toNat - (k + 4) = (nth s ((k + 3 : Nat) : Int)).toNat := by omega
          have hn : (4 : Int) + nth s ((k + 3 : Nat) : Int) = ((4 + ((s.drop (k + 4)).take (nth s ((k + 3 : Nat) : Int)).toNat).length : Nat) : Int) := by rw [hd]; omega
          simp only [← hn, ht]
end Go.Proofs.Ytmcgmiapbdoocaa
