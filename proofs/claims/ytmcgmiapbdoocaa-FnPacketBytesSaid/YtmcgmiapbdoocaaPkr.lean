/- Contracts: packers that are valid, and copies of them, in the program and in the reference. No condition. -/
import Derived.Test.YtmcgmiapbdoocaaPkt
import Derived.Test.YtmcgmiapbdoocaaIntClone
namespace Go.Proofs.Ytmcgmiapbdoocaa
open Go.RowKit

def stAt (L : Int) (ds : List Int) (i : Nat) : Bool := inB (ds.getD i 0) 0 L && (decide (i = 0) || decide (ds.getD (i - 1) 0 < ds.getD i 0))
def stTo (L : Int) (ds : List Int) (k : Nat) : Bool := (List.range k).all (stAt L ds)
theorem stTo_step {L : Int} {ds : List Int} {k : Nat} (h : stTo L ds k = true) (h1 : stAt L ds k = true) : stTo L ds (k + 1) = true := by
  unfold stTo at h ⊢
  rw [List.range_succ, List.all_append, h]
  simp [h1]
theorem stTo_fail {L : Int} {ds : List Int} {k : Nat} (hk : k < ds.length) (h1 : stAt L ds k = false) : stTo L ds ds.length = false := by
  unfold stTo
  rw [List.all_eq_false]
  exact ⟨k, List.mem_range.2 hk, by simp [h1]⟩
theorem stAt_no {L : Int} {ds : List Int} {k : Nat} (hk : k < ds.length) (h : inB ds[k] 0 L = false) : stAt L ds k = false := by
  unfold stAt
  rw [show ds.getD k 0 = ds[k] from by simp [hk], h]
  rfl
theorem stAt_bad {L : Int} {ds : List Int} {k : Nat} (hk : k < ds.length) (hk' : k - 1 < ds.length) (h0 : (0 : Int) < ((k : Nat) : Int)) (h : ds[k] ≤ ds[k - 1]) : stAt L ds k = false := by
  unfold stAt
  rw [show ds.getD k 0 = ds[k] from by simp [hk], show ds.getD (k - 1) 0 = ds[k - 1] from by simp [hk'], decide_eq_false (by omega : ¬ k = 0), decide_eq_false (by omega)]
  simp
theorem stAt_first {L : Int} {ds : List Int} {k : Nat} (hk : k < ds.length) (h : inB ds[k] 0 L = true) (h0 : ¬ (0 : Int) < ((k : Nat) : Int)) : stAt L ds k = true := by
  unfold stAt
  rw [show ds.getD k 0 = ds[k] from by simp [hk], h, decide_eq_true (by omega : k = 0)]
  rfl
theorem stAt_next {L : Int} {ds : List Int} {k : Nat} (hk : k < ds.length) (hk' : k - 1 < ds.length) (h : inB ds[k] 0 L = true) (h2 : ¬ ds[k] ≤ ds[k - 1]) : stAt L ds k = true := by
  unfold stAt
  rw [show ds.getD k 0 = ds[k] from by simp [hk], show ds.getD (k - 1) 0 = ds[k - 1] from by simp [hk'], h, decide_eq_true (by omega : ds[k - 1] < ds[k])]
  simp
def pkrOk (ch ct : Int) (rest : List UInt8) (ds : List Int) : Bool := inB ch 0 2 && (inB ct 0 255 && (decide (((rest.length : Nat) : Int) ≤ 5000) && stTo (((rest.length : Nat) : Int) - 1) ds ds.length))
theorem pkrOk_parts {ch ct : Int} {rest : List UInt8} {ds : List Int} (h : pkrOk ch ct rest ds = true) : (0 ≤ ch ∧ ch ≤ 2) ∧ (0 ≤ ct ∧ ct ≤ 255) ∧ rest.length ≤ 5000 ∧ stTo (((rest.length : Nat) : Int) - 1) ds ds.length = true := by
  unfold pkrOk at h
  simp only [Bool.and_eq_true, decide_eq_true_eq] at h
  exact ⟨inB_true h.1, inB_true h.2.1, by omega, h.2.2.2⟩
set_option maxRecDepth 100000 in
set_option maxHeartbeats 4000000 in
theorem packerOk_any (ch ct : Int) (rest : List UInt8) (B : Option Addr) (m dp : Nat) (ds : List Int) (w : World) (hx : Txt rest) (hm : ds.length = m) (hbm : m ≤ 1048577) (hr_d : Rd w 1 B m (ds.flatMap cI)) :
    Calls Try.prog 31 #[.agg #[.int .i64 ch, .int .i64 ct, .string ⟨rest.toArray⟩, .slice B m dp]] w fun e w' => e = .returned (.bool (pkrOk ch ct rest ds)) ∧ Below w.heap.size w w' := by
  subst hm
  unfold Txt at hx
  refine enter 51 Try.func31 rfl rfl (Nat.le_of_ble_eq_true rfl) ?_
  intro a0 hs hargs
  have s0 : a0.eval (.tmp 0) = .agg #[.int .i64 ch, .int .i64 ct, .string ⟨(rest).toArray⟩, .slice B ds.length dp] := hargs 0 _ rfl
  clear hargs
  have hB : Below w.heap.size w w := Below.refl _ _
  refine wp_seq_k fun K1 hK1 => ?_
  refine wp_region_lit ?_
  refine q_val rfl rfl ?_
  refine g_box rfl s0 rfl ?_
  intro q2 w3 N_q2
  have g_q2 : GeB w.heap.size q2 := ⟨Nat.le_trans hB.size N_q2.lo⟩
  replace hB := below_new hB hB.size N_q2
  have h_q2 := N_q2.here
  clear N_q2
  intro a1 p1
  have s1 : a1.eval (.tmp 1) = .pointer (some ⟨q2, 0, none⟩) := p1.at hs (by decide)
  replace hs := p1.st hs
  refine q_val rfl rfl ?_
  refine g_assign rfl rfl ?_
  intro a2 p2
  have s2 : a2.eval (.tmp 2) = .bool false := p2.at hs (by decide)
  replace hs := p2.st hs
  refine wpList_nil ?_
  replace s1 : a2.eval (.tmp 1) = .pointer (some ⟨q2, 0, none⟩) := (p2.ne rfl).trans s1
  refine hK1 _ _ ?_
  clear hK1
  refine wp_seq_k fun K4 hK4 => ?_
  refine wp_seq_k fun K5 hK5 => ?_
  refine wp_region_lit ?_
  refine q_val rfl rfl ?_
  refine g_field (r := 0) rfl s1 Try.underlying28 rfl (fun w => Try.sizeOf3 w) rfl rfl ?_
  intro a3 p3
  have s5 : a3.eval (.tmp 5) = .pointer (some ⟨q2, 0, none⟩) := p3.at hs (by decide)
  replace hs := p3.st hs
  refine q_val rfl rfl ?_
  refine g_load rfl s5 Try.isAgg3 (box_cell h_q2 rfl) ?_
  intro a4 p4
  have s6 : a4.eval (.tmp 6) = .int .i64 ch := p4.at hs (by decide)
  replace hs := p4.st hs
  refine q_val rfl rfl ?_
  refine g_call rfl rfl Try.call38 (arr3 s6 rfl rfl) ?_
  refine (between_any _ _ _ _).mono ?_
  rintro e w' ⟨rfl, rfl⟩
  refine ⟨_, rfl, ?_⟩
  intro a5 p5
  have s7 : a5.eval (.tmp 7) = .bool (inB ch 0 2) := p5.at hs (by decide)
  replace hs := p5.st hs
  refine q_val rfl rfl ?_
  refine g_not rfl s7 ?_
  intro a6 p6
  have s8 : a6.eval (.tmp 8) = .bool (!(inB ch 0 2)) := p6.at hs (by decide)
  replace hs := p6.st hs
  refine q_val rfl rfl ?_
  refine g_move rfl s8 ?_
  intro a7 p7
  have s9 : a7.eval (.tmp 9) = .bool (!(inB ch 0 2)) := p7.at hs (by decide)
  replace hs := p7.st hs
  cases h1 : inB ch 0 2
  · replace s7 := s7.trans (congrArg Value.bool h1)
    replace s7 : a5.eval (.tmp 7) = .bool false := s7
    replace s8 := s8.trans (congrArg (fun b => Value.bool (!b)) h1)
    replace s8 : a6.eval (.tmp 8) = .bool true := s8
    replace s9 := s9.trans (congrArg (fun b => Value.bool (!b)) h1)
    replace s9 : a7.eval (.tmp 9) = .bool true := s9
    refine q_skip rfl rfl s9 rfl ?_
    intro a8 p8
    have s10 : a8.eval (.tmp 10) = undef := p8.at hs (by decide)
    replace hs := p8.st hs
    refine q_skip rfl rfl ((p8.ne rfl).trans s9) rfl ?_
    intro a9 p9
    have s11 : a9.eval (.tmp 11) = undef := p9.at hs (by decide)
    replace hs := p9.st hs
    refine q_skip rfl rfl (((p9.ne rfl).trans (p8.ne rfl)).trans s9) rfl ?_
    intro a10 p10
    have s12 : a10.eval (.tmp 12) = undef := p10.at hs (by decide)
    replace hs := p10.st hs
    refine q_skip rfl rfl (((p10.ne rfl).trans ((p9.ne rfl).trans (p8.ne rfl))).trans s9) rfl ?_
    intro a11 p11
    have s13 : a11.eval (.tmp 13) = undef := p11.at hs (by decide)
    replace hs := p11.st hs
    refine q_val rfl rfl ?_
    refine g_pick_t rfl (((p11.ne rfl).trans ((p10.ne rfl).trans ((p9.ne rfl).trans (p8.ne rfl)))).trans s9) rfl ?_
    intro a12 p12
    have s14 : a12.eval (.tmp 14) = .bool true := p12.at hs (by decide)
    replace hs := p12.st hs
    refine q_val rfl rfl ?_
    refine g_move rfl s14 ?_
    intro a13 p13
    have s15 : a13.eval (.tmp 15) = .bool true := p13.at hs (by decide)
    replace hs := p13.st hs
    refine q_skip rfl rfl s15 rfl ?_
    intro a14 p14
    have s16 : a14.eval (.tmp 16) = undef := p14.at hs (by decide)
    replace hs := p14.st hs
    refine q_skip rfl rfl ((p14.ne rfl).trans s15) rfl ?_
    intro a15 p15
    have s17 : a15.eval (.tmp 17) = undef := p15.at hs (by decide)
    replace hs := p15.st hs
    refine q_skip rfl rfl (((p15.ne rfl).trans (p14.ne rfl)).trans s15) rfl ?_
    intro a16 p16
    have s18 : a16.eval (.tmp 18) = undef := p16.at hs (by decide)
    replace hs := p16.st hs
    refine q_skip rfl rfl (((p16.ne rfl).trans ((p15.ne rfl).trans (p14.ne rfl))).trans s15) rfl ?_
    intro a17 p17
    have s19 : a17.eval (.tmp 19) = undef := p17.at hs (by decide)
    replace hs := p17.st hs
    refine q_val rfl rfl ?_
    refine g_pick_t rfl (((p17.ne rfl).trans ((p16.ne rfl).trans ((p15.ne rfl).trans (p14.ne rfl)))).trans s15) rfl ?_
    intro a18 p18
    have s20 : a18.eval (.tmp 20) = .bool true := p18.at hs (by decide)
    replace hs := p18.st hs
    refine wpList_nil ?_
    replace s1 : a18.eval (.tmp 1) = .pointer (some ⟨q2, 0, none⟩) := ((p18.ne rfl).trans ((p17.ne rfl).trans ((p16.ne rfl).trans ((p15.ne rfl).trans ((p14.ne rfl).trans ((p13.ne rfl).trans ((p12.ne rfl).trans ((p11.ne rfl).trans ((p10.ne rfl).trans ((p9.ne rfl).trans ((p8.ne rfl).trans ((p7.ne rfl).trans ((p6.ne rfl).trans ((p5.ne rfl).trans ((p4.ne rfl).trans (p3.ne rfl)))))))))))))))).trans s1
    replace s2 : a18.eval (.tmp 2) = .bool false := ((p18.ne rfl).trans ((p17.ne rfl).trans ((p16.ne rfl).trans ((p15.ne rfl).trans ((p14.ne rfl).trans ((p13.ne rfl).trans ((p12.ne rfl).trans ((p11.ne rfl).trans ((p10.ne rfl).trans ((p9.ne rfl).trans ((p8.ne rfl).trans ((p7.ne rfl).trans ((p6.ne rfl).trans ((p5.ne rfl).trans ((p4.ne rfl).trans (p3.ne rfl)))))))))))))))).trans s2
    refine hK5 _ _ ?_
    clear hK5
    refine c_true s20 ?_
    refine wp_seq_k fun K6 hK6 => ?_
    refine wp_region_lit ?_
    refine q_val rfl rfl ?_
    refine g_assign rfl rfl ?_
    intro a19 p19
    have s2 : a19.eval (.tmp 2) = .bool false := p19.at hs (by decide)
    replace hs := p19.st hs
    refine wpList_nil ?_
    replace s1 : a19.eval (.tmp 1) = .pointer (some ⟨q2, 0, none⟩) := (p19.ne rfl).trans s1
    refine hK6 _ _ ?_
    clear hK6
    refine wp_ret ?_
    try dsimp only [Exit.then, Exit.inBlock]
    refine ret1 hs Try.results31 (res_tmp s2) ?_
    exact ⟨by unfold pkrOk; simp [h1], hB⟩
  · replace s7 := s7.trans (congrArg Value.bool h1)
    replace s7 : a5.eval (.tmp 7) = .bool true := s7
    replace s8 := s8.trans (congrArg (fun b => Value.bool (!b)) h1)
    replace s8 : a6.eval (.tmp 8) = .bool false := s8
    replace s9 := s9.trans (congrArg (fun b => Value.bool (!b)) h1)
    replace s9 : a7.eval (.tmp 9) = .bool false := s9
    refine q_take rfl rfl s9 rfl ?_
    refine g_field (r := 1) rfl (((p7.ne rfl).trans ((p6.ne rfl).trans ((p5.ne rfl).trans ((p4.ne rfl).trans (p3.ne rfl))))).trans s1) Try.underlying28 rfl (fun w => Try.sizeOf3 w) rfl rfl ?_
    intro a8 p8
    have s10 : a8.eval (.tmp 10) = .pointer (some ⟨q2, 1, none⟩) := p8.at hs (by decide)
    replace hs := p8.st hs
    refine q_take rfl rfl ((p8.ne rfl).trans s9) rfl ?_
    refine g_load rfl s10 Try.isAgg3 (box_cell h_q2 rfl) ?_
    intro a9 p9
    have s11 : a9.eval (.tmp 11) = .int .i64 ct := p9.at hs (by decide)
    replace hs := p9.st hs
    refine q_take rfl rfl (((p9.ne rfl).trans (p8.ne rfl)).trans s9) rfl ?_
    refine g_call rfl rfl Try.call38 (arr3 s11 rfl rfl) ?_
    refine (between_any _ _ _ _).mono ?_
    rintro e w' ⟨rfl, rfl⟩
    refine ⟨_, rfl, ?_⟩
    intro a10 p10
    have s12 : a10.eval (.tmp 12) = .bool (inB ct 0 255) := p10.at hs (by decide)
    replace hs := p10.st hs
    refine q_take rfl rfl (((p10.ne rfl).trans ((p9.ne rfl).trans (p8.ne rfl))).trans s9) rfl ?_
    refine g_not rfl s12 ?_
    intro a11 p11
    have s13 : a11.eval (.tmp 13) = .bool (!(inB ct 0 255)) := p11.at hs (by decide)
    replace hs := p11.st hs
    refine q_val rfl rfl ?_
    refine g_pick_f rfl (((p11.ne rfl).trans ((p10.ne rfl).trans ((p9.ne rfl).trans (p8.ne rfl)))).trans s9) s13 ?_
    intro a12 p12
    have s14 : a12.eval (.tmp 14) = .bool (!(inB ct 0 255)) := p12.at hs (by decide)
    replace hs := p12.st hs
    refine q_val rfl rfl ?_
    refine g_move rfl s14 ?_
    intro a13 p13
    have s15 : a13.eval (.tmp 15) = .bool (!(inB ct 0 255)) := p13.at hs (by decide)
    replace hs := p13.st hs
    cases h2 : inB ct 0 255
    · replace s12 := s12.trans (congrArg Value.bool h2)
      replace s12 : a10.eval (.tmp 12) = .bool false := s12
      replace s13 := s13.trans (congrArg (fun b => Value.bool (!b)) h2)
      replace s13 : a11.eval (.tmp 13) = .bool true := s13
      replace s14 := s14.trans (congrArg (fun b => Value.bool (!b)) h2)
      replace s14 : a12.eval (.tmp 14) = .bool true := s14
      replace s15 := s15.trans (congrArg (fun b => Value.bool (!b)) h2)
      replace s15 : a13.eval (.tmp 15) = .bool true := s15
      refine q_skip rfl rfl s15 rfl ?_
      intro a14 p14
      have s16 : a14.eval (.tmp 16) = undef := p14.at hs (by decide)
      replace hs := p14.st hs
      refine q_skip rfl rfl ((p14.ne rfl).trans s15) rfl ?_
      intro a15 p15
      have s17 : a15.eval (.tmp 17) = undef := p15.at hs (by decide)
      replace hs := p15.st hs
      refine q_skip rfl rfl (((p15.ne rfl).trans (p14.ne rfl)).trans s15) rfl ?_
      intro a16 p16
      have s18 : a16.eval (.tmp 18) = undef := p16.at hs (by decide)
      replace hs := p16.st hs
      refine q_skip rfl rfl (((p16.ne rfl).trans ((p15.ne rfl).trans (p14.ne rfl))).trans s15) rfl ?_
      intro a17 p17
      have s19 : a17.eval (.tmp 19) = undef := p17.at hs (by decide)
      replace hs := p17.st hs
      refine q_val rfl rfl ?_
      refine g_pick_t rfl (((p17.ne rfl).trans ((p16.ne rfl).trans ((p15.ne rfl).trans (p14.ne rfl)))).trans s15) rfl ?_
      intro a18 p18
      have s20 : a18.eval (.tmp 20) = .bool true := p18.at hs (by decide)
      replace hs := p18.st hs
      refine wpList_nil ?_
      replace s1 : a18.eval (.tmp 1) = .pointer (some ⟨q2, 0, none⟩) := ((p18.ne rfl).trans ((p17.ne rfl).trans ((p16.ne rfl).trans ((p15.ne rfl).trans ((p14.ne rfl).trans ((p13.ne rfl).trans ((p12.ne rfl).trans ((p11.ne rfl).trans ((p10.ne rfl).trans ((p9.ne rfl).trans ((p8.ne rfl).trans ((p7.ne rfl).trans ((p6.ne rfl).trans ((p5.ne rfl).trans ((p4.ne rfl).trans (p3.ne rfl)))))))))))))))).trans s1
      replace s2 : a18.eval (.tmp 2) = .bool false := ((p18.ne rfl).trans ((p17.ne rfl).trans ((p16.ne rfl).trans ((p15.ne rfl).trans ((p14.ne rfl).trans ((p13.ne rfl).trans ((p12.ne rfl).trans ((p11.ne rfl).trans ((p10.ne rfl).trans ((p9.ne rfl).trans ((p8.ne rfl).trans ((p7.ne rfl).trans ((p6.ne rfl).trans ((p5.ne rfl).trans ((p4.ne rfl).trans (p3.ne rfl)))))))))))))))).trans s2
      refine hK5 _ _ ?_
      clear hK5
      refine c_true s20 ?_
      refine wp_seq_k fun K7 hK7 => ?_
      refine wp_region_lit ?_
      refine q_val rfl rfl ?_
      refine g_assign rfl rfl ?_
      intro a19 p19
      have s2 : a19.eval (.tmp 2) = .bool false := p19.at hs (by decide)
      replace hs := p19.st hs
      refine wpList_nil ?_
      replace s1 : a19.eval (.tmp 1) = .pointer (some ⟨q2, 0, none⟩) := (p19.ne rfl).trans s1
      refine hK7 _ _ ?_
      clear hK7
      refine wp_ret ?_
      try dsimp only [Exit.then, Exit.inBlock]
      refine ret1 hs Try.results31 (res_tmp s2) ?_
      exact ⟨by unfold pkrOk; simp [h1, h2], hB⟩
    · replace s12 := s12.trans (congrArg Value.bool h2)
      replace s12 : a10.eval (.tmp 12) = .bool true := s12
      replace s13 := s13.trans (congrArg (fun b => Value.bool (!b)) h2)
      replace s13 : a11.eval (.tmp 13) = .bool false := s13
      replace s14 := s14.trans (congrArg (fun b => Value.bool (!b)) h2)
      replace s14 : a12.eval (.tmp 14) = .bool false := s14
      replace s15 := s15.trans (congrArg (fun b => Value.bool (!b)) h2)
      replace s15 : a13.eval (.tmp 15) = .bool false := s15
      refine q_take rfl rfl s15 rfl ?_
      refine g_field (r := 2) rfl (((p13.ne rfl).trans ((p12.ne rfl).trans ((p11.ne rfl).trans ((p10.ne rfl).trans ((p9.ne rfl).trans ((p8.ne rfl).trans ((p7.ne rfl).trans ((p6.ne rfl).trans ((p5.ne rfl).trans ((p4.ne rfl).trans (p3.ne rfl))))))))))).trans s1) Try.underlying28 rfl (fun w => Try.sizeOf9 w) rfl rfl ?_
      intro a14 p14
      have s16 : a14.eval (.tmp 16) = .pointer (some ⟨q2, 2, none⟩) := p14.at hs (by decide)
      replace hs := p14.st hs
      refine q_take rfl rfl ((p14.ne rfl).trans s15) rfl ?_
      refine g_load rfl s16 Try.isAgg9 (box_cell h_q2 rfl) ?_
      intro a15 p15
      have s17 : a15.eval (.tmp 17) = .string ⟨(rest).toArray⟩ := p15.at hs (by decide)
      replace hs := p15.st hs
      refine q_take rfl rfl (((p15.ne rfl).trans (p14.ne rfl)).trans s15) rfl ?_
      refine g_lenS rfl Try.underlying9 s17 ?_
      intro a16 p16
      have s18 : a16.eval (.tmp 18) = .int .i64 (((rest).length : Nat) : Int) := p16.at hs (by decide)
      replace hs := p16.st hs
      refine q_take rfl rfl (((p16.ne rfl).trans ((p15.ne rfl).trans (p14.ne rfl))).trans s15) rfl ?_
      refine g_gtr rfl s18 rfl ?_
      intro a17 p17
      have s19 : a17.eval (.tmp 19) = .bool (decide (5000 < (((rest).length : Nat) : Int))) := p17.at hs (by decide)
      replace hs := p17.st hs
      refine q_val rfl rfl ?_
      refine g_pick_f rfl (((p17.ne rfl).trans ((p16.ne rfl).trans ((p15.ne rfl).trans (p14.ne rfl)))).trans s15) s19 ?_
      intro a18 p18
      have s20 : a18.eval (.tmp 20) = .bool (decide (5000 < (((rest).length : Nat) : Int))) := p18.at hs (by decide)
      replace hs := p18.st hs
      refine wpList_nil ?_
      replace s1 : a18.eval (.tmp 1) = .pointer (some ⟨q2, 0, none⟩) := ((p18.ne rfl).trans ((p17.ne rfl).trans ((p16.ne rfl).trans ((p15.ne rfl).trans ((p14.ne rfl).trans ((p13.ne rfl).trans ((p12.ne rfl).trans ((p11.ne rfl).trans ((p10.ne rfl).trans ((p9.ne rfl).trans ((p8.ne rfl).trans ((p7.ne rfl).trans ((p6.ne rfl).trans ((p5.ne rfl).trans ((p4.ne rfl).trans (p3.ne rfl)))))))))))))))).trans s1
      replace s2 : a18.eval (.tmp 2) = .bool false := ((p18.ne rfl).trans ((p17.ne rfl).trans ((p16.ne rfl).trans ((p15.ne rfl).trans ((p14.ne rfl).trans ((p13.ne rfl).trans ((p12.ne rfl).trans ((p11.ne rfl).trans ((p10.ne rfl).trans ((p9.ne rfl).trans ((p8.ne rfl).trans ((p7.ne rfl).trans ((p6.ne rfl).trans ((p5.ne rfl).trans ((p4.ne rfl).trans (p3.ne rfl)))))))))))))))).trans s2
      refine hK5 _ _ ?_
      clear hK5
      by_cases h3 : 5000 < (((rest).length : Nat) : Int)
      · replace s20 := s20.trans (congrArg Value.bool (decide_eq_true h3))
        replace s20 : a18.eval (.tmp 20) = .bool true := s20
        refine c_true s20 ?_
        refine wp_seq_k fun K8 hK8 => ?_
        refine wp_region_lit ?_
        refine q_val rfl rfl ?_
        refine g_assign rfl rfl ?_
        intro a19 p19
        have s2 : a19.eval (.tmp 2) = .bool false := p19.at hs (by decide)
        replace hs := p19.st hs
        refine wpList_nil ?_
        replace s1 : a19.eval (.tmp 1) = .pointer (some ⟨q2, 0, none⟩) := (p19.ne rfl).trans s1
        refine hK8 _ _ ?_
        clear hK8
        refine wp_ret ?_
        try dsimp only [Exit.then, Exit.inBlock]
        refine ret1 hs Try.results31 (res_tmp s2) ?_
        exact ⟨by unfold pkrOk; rw [decide_eq_false (by omega : ¬ ((rest.length : Nat) : Int) ≤ 5000)]; simp, hB⟩
      · replace s20 := s20.trans (congrArg Value.bool (decide_eq_false h3))
        replace s20 : a18.eval (.tmp 20) = .bool false := s20
        refine c_false s20 ?_
        refine wp_skip ?_
        refine hK4 _ _ ?_
        clear hK4
        refine wp_seq_k fun K9 hK9 => ?_
        refine wp_seq_k fun K10 hK10 => ?_
        refine wp_region_lit ?_
        refine q_val rfl rfl ?_
        refine g_field (r := 3) rfl s1 Try.underlying28 rfl (fun w => Try.sizeOf26 w) rfl rfl ?_
        intro a19 p19
        have s21 : a19.eval (.tmp 21) = .pointer (some ⟨q2, 3, none⟩) := p19.at hs (by decide)
        replace hs := p19.st hs
        refine q_val rfl rfl ?_
        refine g_load rfl s21 Try.isAgg26 (box_cell h_q2 rfl) ?_
        intro a20 p20
        have s22 : a20.eval (.tmp 22) = .slice B ds.length dp := p20.at hs (by decide)
        replace hs := p20.st hs
        refine q_val rfl rfl ?_
        refine g_len (e := _) rfl Try.underlying26 s22 ?_
        intro a21 p21
        have s23 : a21.eval (.tmp 23) = .int .i64 ((ds.length : Nat) : Int) := p21.at hs (by decide)
        replace hs := p21.st hs
        refine q_val rfl rfl ?_
        refine g_move rfl rfl ?_
        intro a22 p22
        have s24 : a22.eval (.tmp 24) = .int .i64 0 := p22.at hs (by decide)
        replace hs := p22.st hs
        refine wpList_nil ?_
        replace s1 : a22.eval (.tmp 1) = .pointer (some ⟨q2, 0, none⟩) := ((p22.ne rfl).trans ((p21.ne rfl).trans ((p20.ne rfl).trans (p19.ne rfl)))).trans s1
        replace s2 : a22.eval (.tmp 2) = .bool false := ((p22.ne rfl).trans ((p21.ne rfl).trans ((p20.ne rfl).trans (p19.ne rfl)))).trans s2
        replace s22 : a22.eval (.tmp 22) = .slice B ds.length dp := ((p22.ne rfl).trans (p21.ne rfl)).trans s22
        replace s23 : a22.eval (.tmp 23) = .int .i64 ((ds.length : Nat) : Int) := (p22.ne rfl).trans s23
        refine hK10 _ _ ?_
        clear hK10
        refine wp_block ?_
        refine wp_loop (fun a wr => ∃ (k : Nat), (St 51 a) ∧ (a.eval (.tmp 1) = .pointer (some ⟨q2, 0, none⟩)) ∧ (a.eval (.tmp 2) = .bool false) ∧ (a.eval (.tmp 22) = .slice B ds.length dp) ∧ (a.eval (.tmp 23) = .int .i64 ((ds.length : Nat) : Int)) ∧ (a.eval (.tmp 24) = .int .i64 ((k : Nat) : Int)) ∧ (Below w.heap.size w wr) ∧ (wr.heap[q2]? = some (.cells #[.int .i64 ch, .int .i64 ct, .string ⟨(rest).toArray⟩, .slice B ds.length dp] 28 (0, 0))) ∧ (k ≤ ds.length) ∧ (stTo ((((rest).length : Nat) : Int) - 1) ds k = true)) (fun a _ => ds.length - (intOf (a.eval (.tmp 24))).toNat) (⟨0, hs, s1, s2, s22, s23, s24, hB, h_q2, Nat.zero_le _, rfl⟩) ?_
        intro a23 w12 hI
        obtain ⟨k, hs, s1, s2, s22, s23, s24, hB, h_q2, hk, hst⟩ := hI
        have mu0 := s24
        refine wp_seq_k fun K13 hK13 => ?_
        refine wp_region_lit ?_
        refine q_val rfl rfl ?_
        refine g_lss rfl s24 s23 ?_
        intro a24 p24
        have s25 : a24.eval (.tmp 25) = .bool (decide (((k : Nat) : Int) < ((ds.length : Nat) : Int))) := p24.at hs (by decide)
        replace hs := p24.st hs
        refine wpList_nil ?_
        replace s1 : a24.eval (.tmp 1) = .pointer (some ⟨q2, 0, none⟩) := (p24.ne rfl).trans s1
        replace s2 : a24.eval (.tmp 2) = .bool false := (p24.ne rfl).trans s2
        replace s22 : a24.eval (.tmp 22) = .slice B ds.length dp := (p24.ne rfl).trans s22
        replace s23 : a24.eval (.tmp 23) = .int .i64 ((ds.length : Nat) : Int) := (p24.ne rfl).trans s23
        replace s24 : a24.eval (.tmp 24) = .int .i64 ((k : Nat) : Int) := (p24.ne rfl).trans s24
        refine hK13 _ _ ?_
        clear hK13
        refine wp_seq_k fun K14 hK14 => ?_
        by_cases hc15 : ((k : Nat) : Int) < ((ds.length : Nat) : Int)
        · replace s25 := s25.trans (congrArg Value.bool (decide_eq_true hc15))
          replace s25 : a24.eval (.tmp 25) = .bool true := s25
          refine c_true s25 ?_
          refine wp_skip ?_
          refine hK14 _ _ ?_
          clear hK14
          refine wp_seq_k fun K16 hK16 => ?_
          refine wp_block ?_
          refine wp_seq_k fun K17 hK17 => ?_
          have hlt : k < ds.length := by omega
          refine wp_region_lit ?_
          refine q_val rfl rfl ?_
          refine g_move rfl s24 ?_
          intro a25 p25
          have s26 : a25.eval (.tmp 26) = .int .i64 ((k : Nat) : Int) := p25.at hs (by decide)
          replace hs := p25.st hs
          obtain ⟨b18, o19, hA20, hl_hc21, hc21⟩ := Rd.get cI_len (hr_d.below hB) rfl (i := k) (by omega)
          refine q_val rfl rfl ?_
          refine g_index (r := o19 + k * 1) (k := k) rfl (((p25.ne rfl).trans s22).trans (slice_at hA20)) ((p25.ne rfl).trans s24) Try.underlying26 (fun w => Try.sizeOf3 w) (by omega) rfl ?_
          intro a26 p26
          have s27 : a26.eval (.tmp 27) = .pointer (some ⟨b18, o19 + k * 1, none⟩) := p26.at hs (by decide)
          replace hs := p26.st hs
          refine q_val rfl rfl ?_
          refine g_load rfl s27 Try.isAgg3 (by first | exact hc21 0 _ (by decide) rfl | (rw [Nat.add_assoc]; exact hc21 0 _ (by decide) rfl)) ?_
          intro a27 p27
          have s28 : a27.eval (.tmp 28) = .int .i64 ds[k] := p27.at hs (by decide)
          replace hs := p27.st hs
          refine q_val rfl rfl ?_
          refine g_assign rfl (((p27.ne rfl).trans (p26.ne rfl)).trans s26) ?_
          intro a28 p28
          have s3 : a28.eval (.tmp 3) = .int .i64 ((k : Nat) : Int) := p28.at hs (by decide)
          replace hs := p28.st hs
          refine q_val rfl rfl ?_
          refine g_assign rfl ((p28.ne rfl).trans s28) ?_
          intro a29 p29
          have s4 : a29.eval (.tmp 4) = .int .i64 ds[k] := p29.at hs (by decide)
          replace hs := p29.st hs
          refine wpList_nil ?_
          replace s1 : a29.eval (.tmp 1) = .pointer (some ⟨q2, 0, none⟩) := ((p29.ne rfl).trans ((p28.ne rfl).trans ((p27.ne rfl).trans ((p26.ne rfl).trans (p25.ne rfl))))).trans s1
          replace s2 : a29.eval (.tmp 2) = .bool false := ((p29.ne rfl).trans ((p28.ne rfl).trans ((p27.ne rfl).trans ((p26.ne rfl).trans (p25.ne rfl))))).trans s2
          replace s22 : a29.eval (.tmp 22) = .slice B ds.length dp := ((p29.ne rfl).trans ((p28.ne rfl).trans ((p27.ne rfl).trans ((p26.ne rfl).trans (p25.ne rfl))))).trans s22
          replace s23 : a29.eval (.tmp 23) = .int .i64 ((ds.length : Nat) : Int) := ((p29.ne rfl).trans ((p28.ne rfl).trans ((p27.ne rfl).trans ((p26.ne rfl).trans (p25.ne rfl))))).trans s23
          replace s24 : a29.eval (.tmp 24) = .int .i64 ((k : Nat) : Int) := ((p29.ne rfl).trans ((p28.ne rfl).trans ((p27.ne rfl).trans ((p26.ne rfl).trans (p25.ne rfl))))).trans s24
          replace s25 : a29.eval (.tmp 25) = .bool true := ((p29.ne rfl).trans ((p28.ne rfl).trans ((p27.ne rfl).trans ((p26.ne rfl).trans (p25.ne rfl))))).trans s25
          replace s3 : a29.eval (.tmp 3) = .int .i64 ((k : Nat) : Int) := (p29.ne rfl).trans s3
          refine hK17 _ _ ?_
          clear hK17
          refine wp_seq_k fun K22 hK22 => ?_
          refine wp_region_lit ?_
          refine q_val rfl rfl ?_
          refine g_move rfl s4 ?_
          intro a30 p30
          have s29 : a30.eval (.tmp 29) = .int .i64 ds[k] := p30.at hs (by decide)
          replace hs := p30.st hs
          refine q_val rfl rfl ?_
          refine g_field (r := 2) rfl ((p30.ne rfl).trans s1) Try.underlying28 rfl (fun w => Try.sizeOf9 w) rfl rfl ?_
          intro a31 p31
          have s30 : a31.eval (.tmp 30) = .pointer (some ⟨q2, 2, none⟩) := p31.at hs (by decide)
          replace hs := p31.st hs
          refine q_val rfl rfl ?_
          refine g_load rfl s30 Try.isAgg9 (box_cell h_q2 rfl) ?_
          intro a32 p32
          have s31 : a32.eval (.tmp 31) = .string ⟨(rest).toArray⟩ := p32.at hs (by decide)
          replace hs := p32.st hs
          refine q_val rfl rfl ?_
          refine g_lenS rfl Try.underlying9 s31 ?_
          intro a33 p33
          have s32 : a33.eval (.tmp 32) = .int .i64 (((rest).length : Nat) : Int) := p33.at hs (by decide)
          replace hs := p33.st hs
          refine q_val rfl rfl ?_
          refine g_sub (r := (((rest).length : Nat) : Int) - 1) rfl s32 rfl (by omega) (by omega) ?_
          intro a34 p34
          have s33 : a34.eval (.tmp 33) = .int .i64 ((((rest).length : Nat) : Int) - 1) := p34.at hs (by decide)
          replace hs := p34.st hs
          refine q_val rfl rfl ?_
          refine g_call rfl rfl Try.call38 (arr3 (((p34.ne rfl).trans ((p33.ne rfl).trans ((p32.ne rfl).trans (p31.ne rfl)))).trans s29) rfl s33) ?_
          refine (between_any _ _ _ _).mono ?_
          rintro e w' ⟨rfl, rfl⟩
          refine ⟨_, rfl, ?_⟩
          intro a35 p35
          have s34 : a35.eval (.tmp 34) = .bool (inB ds[k] 0 ((((rest).length : Nat) : Int) - 1)) := p35.at hs (by decide)
          replace hs := p35.st hs
          refine q_val rfl rfl ?_
          refine g_not rfl s34 ?_
          intro a36 p36
          have s35 : a36.eval (.tmp 35) = .bool (!(inB ds[k] 0 ((((rest).length : Nat) : Int) - 1))) := p36.at hs (by decide)
          replace hs := p36.st hs
          refine q_val rfl rfl ?_
          refine g_move rfl s35 ?_
          intro a37 p37
          have s36 : a37.eval (.tmp 36) = .bool (!(inB ds[k] 0 ((((rest).length : Nat) : Int) - 1))) := p37.at hs (by decide)
          replace hs := p37.st hs
          cases hin : inB ds[k] 0 ((((rest).length : Nat) : Int) - 1)
          · replace s34 := s34.trans (congrArg Value.bool hin)
            replace s34 : a35.eval (.tmp 34) = .bool false := s34
            replace s35 := s35.trans (congrArg (fun b => Value.bool (!b)) hin)
            replace s35 : a36.eval (.tmp 35) = .bool true := s35
            replace s36 := s36.trans (congrArg (fun b => Value.bool (!b)) hin)
            replace s36 : a37.eval (.tmp 36) = .bool true := s36
            refine q_skip rfl rfl s36 rfl ?_
            intro a38 p38
            have s37 : a38.eval (.tmp 37) = undef := p38.at hs (by decide)
            replace hs := p38.st hs
            refine q_skip rfl rfl ((p38.ne rfl).trans s36) rfl ?_
            intro a39 p39
            have s38 : a39.eval (.tmp 38) = undef := p39.at hs (by decide)
            replace hs := p39.st hs
            refine q_skip rfl rfl (((p39.ne rfl).trans (p38.ne rfl)).trans s36) rfl ?_
            intro a40 p40
            have s39 : a40.eval (.tmp 39) = undef := p40.at hs (by decide)
            replace hs := p40.st hs
            refine q_skipU rfl rfl s39 rfl ?_
            intro a41 p41
            have s40 : a41.eval (.tmp 40) = undef := p41.at hs (by decide)
            replace hs := p41.st hs
            refine q_skipU rfl rfl ((p41.ne rfl).trans s39) rfl ?_
            intro a42 p42
            have s41 : a42.eval (.tmp 41) = undef := p42.at hs (by decide)
            replace hs := p42.st hs
            refine q_skipU rfl rfl (((p42.ne rfl).trans (p41.ne rfl)).trans s39) rfl ?_
            intro a43 p43
            have s42 : a43.eval (.tmp 42) = undef := p43.at hs (by decide)
            replace hs := p43.st hs
            refine q_skipU rfl rfl (((p43.ne rfl).trans ((p42.ne rfl).trans (p41.ne rfl))).trans s39) rfl ?_
            intro a44 p44
            have s43 : a44.eval (.tmp 43) = undef := p44.at hs (by decide)
            replace hs := p44.st hs
            refine q_skipU rfl rfl (((p44.ne rfl).trans ((p43.ne rfl).trans ((p42.ne rfl).trans (p41.ne rfl)))).trans s39) rfl ?_
            intro a45 p45
            have s44 : a45.eval (.tmp 44) = undef := p45.at hs (by decide)
            replace hs := p45.st hs
            refine q_skipU rfl rfl (((p45.ne rfl).trans ((p44.ne rfl).trans ((p43.ne rfl).trans ((p42.ne rfl).trans (p41.ne rfl))))).trans s39) rfl ?_
            intro a46 p46
            have s45 : a46.eval (.tmp 45) = undef := p46.at hs (by decide)
            replace hs := p46.st hs
            refine q_skipU rfl rfl (((p46.ne rfl).trans ((p45.ne rfl).trans ((p44.ne rfl).trans ((p43.ne rfl).trans ((p42.ne rfl).trans (p41.ne rfl)))))).trans s39) rfl ?_
            intro a47 p47
            have s46 : a47.eval (.tmp 46) = undef := p47.at hs (by decide)
            replace hs := p47.st hs
            refine q_skipU rfl rfl (((p47.ne rfl).trans ((p46.ne rfl).trans ((p45.ne rfl).trans ((p44.ne rfl).trans ((p43.ne rfl).trans ((p42.ne rfl).trans (p41.ne rfl))))))).trans s39) rfl ?_
            intro a48 p48
            have s47 : a48.eval (.tmp 47) = undef := p48.at hs (by decide)
            replace hs := p48.st hs
            refine q_skip rfl rfl (((p48.ne rfl).trans ((p47.ne rfl).trans ((p46.ne rfl).trans ((p45.ne rfl).trans ((p44.ne rfl).trans ((p43.ne rfl).trans ((p42.ne rfl).trans ((p41.ne rfl).trans ((p40.ne rfl).trans ((p39.ne rfl).trans (p38.ne rfl))))))))))).trans s36) rfl ?_
            intro a49 p49
            have s48 : a49.eval (.tmp 48) = undef := p49.at hs (by decide)
            replace hs := p49.st hs
            refine q_val rfl rfl ?_
            refine g_pick_t rfl (((p49.ne rfl).trans ((p48.ne rfl).trans ((p47.ne rfl).trans ((p46.ne rfl).trans ((p45.ne rfl).trans ((p44.ne rfl).trans ((p43.ne rfl).trans ((p42.ne rfl).trans ((p41.ne rfl).trans ((p40.ne rfl).trans ((p39.ne rfl).trans (p38.ne rfl)))))))))))).trans s36) rfl ?_
            intro a50 p50
            have s49 : a50.eval (.tmp 49) = .bool true := p50.at hs (by decide)
            replace hs := p50.st hs
            refine wpList_nil ?_
            replace s1 : a50.eval (.tmp 1) = .pointer (some ⟨q2, 0, none⟩) := ((p50.ne rfl).trans ((p49.ne rfl).trans ((p48.ne rfl).trans ((p47.ne rfl).trans ((p46.ne rfl).trans ((p45.ne rfl).trans ((p44.ne rfl).trans ((p43.ne rfl).trans ((p42.ne rfl).trans ((p41.ne rfl).trans ((p40.ne rfl).trans ((p39.ne rfl).trans ((p38.ne rfl).trans ((p37.ne rfl).trans ((p36.ne rfl).trans ((p35.ne rfl).trans ((p34.ne rfl).trans ((p33.ne rfl).trans ((p32.ne rfl).trans ((p31.ne rfl).trans (p30.ne rfl))))))))))))))))))))).trans s1
            replace s2 : a50.eval (.tmp 2) = .bool false := ((p50.ne rfl).trans ((p49.ne rfl).trans ((p48.ne rfl).trans ((p47.ne rfl).trans ((p46.ne rfl).trans ((p45.ne rfl).trans ((p44.ne rfl).trans ((p43.ne rfl).trans ((p42.ne rfl).trans ((p41.ne rfl).trans ((p40.ne rfl).trans ((p39.ne rfl).trans ((p38.ne rfl).trans ((p37.ne rfl).trans ((p36.ne rfl).trans ((p35.ne rfl).trans ((p34.ne rfl).trans ((p33.ne rfl).trans ((p32.ne rfl).trans ((p31.ne rfl).trans (p30.ne rfl))))))))))))))))))))).trans s2
            replace s22 : a50.eval (.tmp 22) = .slice B ds.length dp := ((p50.ne rfl).trans ((p49.ne rfl).trans ((p48.ne rfl).trans ((p47.ne rfl).trans ((p46.ne rfl).trans ((p45.ne rfl).trans ((p44.ne rfl).trans ((p43.ne rfl).trans ((p42.ne rfl).trans ((p41.ne rfl).trans ((p40.ne rfl).trans ((p39.ne rfl).trans ((p38.ne rfl).trans ((p37.ne rfl).trans ((p36.ne rfl).trans ((p35.ne rfl).trans ((p34.ne rfl).trans ((p33.ne rfl).trans ((p32.ne rfl).trans ((p31.ne rfl).trans (p30.ne rfl))))))))))))))))))))).trans s22
            replace s23 : a50.eval (.tmp 23) = .int .i64 ((ds.length : Nat) : Int) := ((p50.ne rfl).trans ((p49.ne rfl).trans ((p48.ne rfl).trans ((p47.ne rfl).trans ((p46.ne rfl).trans ((p45.ne rfl).trans ((p44.ne rfl).trans ((p43.ne rfl).trans ((p42.ne rfl).trans ((p41.ne rfl).trans ((p40.ne rfl).trans ((p39.ne rfl).trans ((p38.ne rfl).trans ((p37.ne rfl).trans ((p36.ne rfl).trans ((p35.ne rfl).trans ((p34.ne rfl).trans ((p33.ne rfl).trans ((p32.ne rfl).trans ((p31.ne rfl).trans (p30.ne rfl))))))))))))))))))))).trans s23
            replace s24 : a50.eval (.tmp 24) = .int .i64 ((k : Nat) : Int) := ((p50.ne rfl).trans ((p49.ne rfl).trans ((p48.ne rfl).trans ((p47.ne rfl).trans ((p46.ne rfl).trans ((p45.ne rfl).trans ((p44.ne rfl).trans ((p43.ne rfl).trans ((p42.ne rfl).trans ((p41.ne rfl).trans ((p40.ne rfl).trans ((p39.ne rfl).trans ((p38.ne rfl).trans ((p37.ne rfl).trans ((p36.ne rfl).trans ((p35.ne rfl).trans ((p34.ne rfl).trans ((p33.ne rfl).trans ((p32.ne rfl).trans ((p31.ne rfl).trans (p30.ne rfl))))))))))))))))))))).trans s24
            replace s25 : a50.eval (.tmp 25) = .bool true := ((p50.ne rfl).trans ((p49.ne rfl).trans ((p48.ne rfl).trans ((p47.ne rfl).trans ((p46.ne rfl).trans ((p45.ne rfl).trans ((p44.ne rfl).trans ((p43.ne rfl).trans ((p42.ne rfl).trans ((p41.ne rfl).trans ((p40.ne rfl).trans ((p39.ne rfl).trans ((p38.ne rfl).trans ((p37.ne rfl).trans ((p36.ne rfl).trans ((p35.ne rfl).trans ((p34.ne rfl).trans ((p33.ne rfl).trans ((p32.ne rfl).trans ((p31.ne rfl).trans (p30.ne rfl))))))))))))))))))))).trans s25
            replace s3 : a50.eval (.tmp 3) = .int .i64 ((k : Nat) : Int) := ((p50.ne rfl).trans ((p49.ne rfl).trans ((p48.ne rfl).trans ((p47.ne rfl).trans ((p46.ne rfl).trans ((p45.ne rfl).trans ((p44.ne rfl).trans ((p43.ne rfl).trans ((p42.ne rfl).trans ((p41.ne rfl).trans ((p40.ne rfl).trans ((p39.ne rfl).trans ((p38.ne rfl).trans ((p37.ne rfl).trans ((p36.ne rfl).trans ((p35.ne rfl).trans ((p34.ne rfl).trans ((p33.ne rfl).trans ((p32.ne rfl).trans ((p31.ne rfl).trans (p30.ne rfl))))))))))))))))))))).trans s3
            replace s4 : a50.eval (.tmp 4) = .int .i64 ds[k] := ((p50.ne rfl).trans ((p49.ne rfl).trans ((p48.ne rfl).trans ((p47.ne rfl).trans ((p46.ne rfl).trans ((p45.ne rfl).trans ((p44.ne rfl).trans ((p43.ne rfl).trans ((p42.ne rfl).trans ((p41.ne rfl).trans ((p40.ne rfl).trans ((p39.ne rfl).trans ((p38.ne rfl).trans ((p37.ne rfl).trans ((p36.ne rfl).trans ((p35.ne rfl).trans ((p34.ne rfl).trans ((p33.ne rfl).trans ((p32.ne rfl).trans ((p31.ne rfl).trans (p30.ne rfl))))))))))))))))))))).trans s4
            refine hK22 _ _ ?_
            clear hK22
            refine c_true s49 ?_
            refine wp_seq_k fun K23 hK23 => ?_
            refine wp_region_lit ?_
            refine q_val rfl rfl ?_
            refine g_assign rfl rfl ?_
            intro a51 p51
            have s2 : a51.eval (.tmp 2) = .bool false := p51.at hs (by decide)
            replace hs := p51.st hs
            refine wpList_nil ?_
            replace s1 : a51.eval (.tmp 1) = .pointer (some ⟨q2, 0, none⟩) := (p51.ne rfl).trans s1
            replace s22 : a51.eval (.tmp 22) = .slice B ds.length dp := (p51.ne rfl).trans s22
            replace s23 : a51.eval (.tmp 23) = .int .i64 ((ds.length : Nat) : Int) := (p51.ne rfl).trans s23
            replace s24 : a51.eval (.tmp 24) = .int .i64 ((k : Nat) : Int) := (p51.ne rfl).trans s24
            replace s25 : a51.eval (.tmp 25) = .bool true := (p51.ne rfl).trans s25
            replace s3 : a51.eval (.tmp 3) = .int .i64 ((k : Nat) : Int) := (p51.ne rfl).trans s3
            replace s4 : a51.eval (.tmp 4) = .int .i64 ds[k] := (p51.ne rfl).trans s4
            replace s49 : a51.eval (.tmp 49) = .bool true := (p51.ne rfl).trans s49
            refine hK23 _ _ ?_
            clear hK23
            refine wp_ret ?_
            try dsimp only [Exit.then, Exit.inBlock]
            refine ret1 hs Try.results31 (res_tmp s2) ?_
            exact ⟨by unfold pkrOk; rw [stTo_fail hlt (stAt_no hlt hin)]; simp, hB⟩
          · replace s34 := s34.trans (congrArg Value.bool hin)
            replace s34 : a35.eval (.tmp 34) = .bool true := s34
            replace s35 := s35.trans (congrArg (fun b => Value.bool (!b)) hin)
            replace s35 : a36.eval (.tmp 35) = .bool false := s35
            replace s36 := s36.trans (congrArg (fun b => Value.bool (!b)) hin)
            replace s36 : a37.eval (.tmp 36) = .bool false := s36
            refine q_take rfl rfl s36 rfl ?_
            refine g_move rfl (((p37.ne rfl).trans ((p36.ne rfl).trans ((p35.ne rfl).trans ((p34.ne rfl).trans ((p33.ne rfl).trans ((p32.ne rfl).trans ((p31.ne rfl).trans (p30.ne rfl)))))))).trans s3) ?_
            intro a38 p38
            have s37 : a38.eval (.tmp 37) = .int .i64 ((k : Nat) : Int) := p38.at hs (by decide)
            replace hs := p38.st hs
            refine q_take rfl rfl ((p38.ne rfl).trans s36) rfl ?_
            refine g_gtr rfl s37 rfl ?_
            intro a39 p39
            have s38 : a39.eval (.tmp 38) = .bool (decide (0 < ((k : Nat) : Int))) := p39.at hs (by decide)
            replace hs := p39.st hs
            refine q_take rfl rfl (((p39.ne rfl).trans (p38.ne rfl)).trans s36) rfl ?_
            refine g_move rfl s38 ?_
            intro a40 p40
            have s39 : a40.eval (.tmp 39) = .bool (decide (0 < ((k : Nat) : Int))) := p40.at hs (by decide)
            replace hs := p40.st hs
            by_cases hk0 : 0 < ((k : Nat) : Int)
            · replace s38 := s38.trans (congrArg Value.bool (decide_eq_true hk0))
              replace s38 : a39.eval (.tmp 38) = .bool true := s38
              replace s39 := s39.trans (congrArg Value.bool (decide_eq_true hk0))
              replace s39 : a40.eval (.tmp 39) = .bool true := s39
              refine q_take rfl rfl s39 rfl ?_
              refine g_move rfl (((p40.ne rfl).trans ((p39.ne rfl).trans ((p38.ne rfl).trans ((p37.ne rfl).trans ((p36.ne rfl).trans ((p35.ne rfl).trans ((p34.ne rfl).trans ((p33.ne rfl).trans ((p32.ne rfl).trans ((p31.ne rfl).trans (p30.ne rfl))))))))))).trans s4) ?_
              intro a41 p41
              have s40 : a41.eval (.tmp 40) = .int .i64 ds[k] := p41.at hs (by decide)
              replace hs := p41.st hs
              refine q_take rfl rfl ((p41.ne rfl).trans s39) rfl ?_
              refine g_field (r := 3) rfl (((p41.ne rfl).trans ((p40.ne rfl).trans ((p39.ne rfl).trans ((p38.ne rfl).trans ((p37.ne rfl).trans ((p36.ne rfl).trans ((p35.ne rfl).trans ((p34.ne rfl).trans ((p33.ne rfl).trans ((p32.ne rfl).trans ((p31.ne rfl).trans (p30.ne rfl)))))))))))).trans s1) Try.underlying28 rfl (fun w => Try.sizeOf26 w) rfl rfl ?_
              intro a42 p42
              have s41 : a42.eval (.tmp 41) = .pointer (some ⟨q2, 3, none⟩) := p42.at hs (by decide)
              replace hs := p42.st hs
              refine q_take rfl rfl (((p42.ne rfl).trans (p41.ne rfl)).trans s39) rfl ?_
              refine g_load rfl s41 Try.isAgg26 (box_cell h_q2 rfl) ?_
              intro a43 p43
              have s42 : a43.eval (.tmp 42) = .slice B ds.length dp := p43.at hs (by decide)
              replace hs := p43.st hs
              refine q_take rfl rfl (((p43.ne rfl).trans ((p42.ne rfl).trans (p41.ne rfl))).trans s39) rfl ?_
              refine g_move rfl (((p43.ne rfl).trans ((p42.ne rfl).trans ((p41.ne rfl).trans ((p40.ne rfl).trans ((p39.ne rfl).trans ((p38.ne rfl).trans ((p37.ne rfl).trans ((p36.ne rfl).trans ((p35.ne rfl).trans ((p34.ne rfl).trans ((p33.ne rfl).trans ((p32.ne rfl).trans ((p31.ne rfl).trans (p30.ne rfl)))))))))))))).trans s3) ?_
              intro a44 p44
              have s43 : a44.eval (.tmp 43) = .int .i64 ((k : Nat) : Int) := p44.at hs (by decide)
              replace hs := p44.st hs
              refine q_take rfl rfl (((p44.ne rfl).trans ((p43.ne rfl).trans ((p42.ne rfl).trans (p41.ne rfl)))).trans s39) rfl ?_
              refine g_sub (r := ((k - 1 : Nat) : Int)) rfl s43 rfl (by omega) (by omega) ?_
              intro a45 p45
              have s44 : a45.eval (.tmp 44) = .int .i64 ((k - 1 : Nat) : Int) := p45.at hs (by decide)
              replace hs := p45.st hs
              obtain ⟨b24, o25, hA26, hl_hc27, hc27⟩ := Rd.get cI_len (hr_d.below hB) rfl (i := k - 1) (by omega)
              refine q_take rfl rfl (((p45.ne rfl).trans ((p44.ne rfl).trans ((p43.ne rfl).trans ((p42.ne rfl).trans (p41.ne rfl))))).trans s39) rfl ?_
              refine g_index (r := o25 + (k - 1) * 1) (k := k - 1) rfl ((((p45.ne rfl).trans (p44.ne rfl)).trans s42).trans (slice_at hA26)) s44 Try.underlying26 (fun w => Try.sizeOf3 w) (by omega) rfl ?_
              intro a46 p46
              have s45 : a46.eval (.tmp 45) = .pointer (some ⟨b24, o25 + (k - 1) * 1, none⟩) := p46.at hs (by decide)
              replace hs := p46.st hs
              refine q_take rfl rfl (((p46.ne rfl).trans ((p45.ne rfl).trans ((p44.ne rfl).trans ((p43.ne rfl).trans ((p42.ne rfl).trans (p41.ne rfl)))))).trans s39) rfl ?_
              refine g_load rfl s45 Try.isAgg3 (by first | exact hc27 0 _ (by decide) rfl | (rw [Nat.add_assoc]; exact hc27 0 _ (by decide) rfl)) ?_
              intro a47 p47
              have s46 : a47.eval (.tmp 46) = .int .i64 ds[k - 1] := p47.at hs (by decide)
              replace hs := p47.st hs
              refine q_take rfl rfl (((p47.ne rfl).trans ((p46.ne rfl).trans ((p45.ne rfl).trans ((p44.ne rfl).trans ((p43.ne rfl).trans ((p42.ne rfl).trans (p41.ne rfl))))))).trans s39) rfl ?_
              refine g_leq rfl (((p47.ne rfl).trans ((p46.ne rfl).trans ((p45.ne rfl).trans ((p44.ne rfl).trans ((p43.ne rfl).trans (p42.ne rfl)))))).trans s40) s46 ?_
              intro a48 p48
              have s47 : a48.eval (.tmp 47) = .bool (decide (ds[k] ≤ ds[k - 1])) := p48.at hs (by decide)
              replace hs := p48.st hs
              refine q_take rfl rfl (((p48.ne rfl).trans ((p47.ne rfl).trans ((p46.ne rfl).trans ((p45.ne rfl).trans ((p44.ne rfl).trans ((p43.ne rfl).trans ((p42.ne rfl).trans ((p41.ne rfl).trans ((p40.ne rfl).trans ((p39.ne rfl).trans (p38.ne rfl))))))))))).trans s36) rfl ?_
              refine g_pick_t rfl (((p48.ne rfl).trans ((p47.ne rfl).trans ((p46.ne rfl).trans ((p45.ne rfl).trans ((p44.ne rfl).trans ((p43.ne rfl).trans ((p42.ne rfl).trans (p41.ne rfl)))))))).trans s39) s47 ?_
              intro a49 p49
              have s48 : a49.eval (.tmp 48) = .bool (decide (ds[k] ≤ ds[k - 1])) := p49.at hs (by decide)
              replace hs := p49.st hs
              refine q_val rfl rfl ?_
              refine g_pick_f rfl (((p49.ne rfl).trans ((p48.ne rfl).trans ((p47.ne rfl).trans ((p46.ne rfl).trans ((p45.ne rfl).trans ((p44.ne rfl).trans ((p43.ne rfl).trans ((p42.ne rfl).trans ((p41.ne rfl).trans ((p40.ne rfl).trans ((p39.ne rfl).trans (p38.ne rfl)))))))))))).trans s36) s48 ?_
              intro a50 p50
              have s49 : a50.eval (.tmp 49) = .bool (decide (ds[k] ≤ ds[k - 1])) := p50.at hs (by decide)
              replace hs := p50.st hs
              refine wpList_nil ?_
              replace s1 : a50.eval (.tmp 1) = .pointer (some ⟨q2, 0, none⟩) := ((p50.ne rfl).trans ((p49.ne rfl).trans ((p48.ne rfl).trans ((p47.ne rfl).trans ((p46.ne rfl).trans ((p45.ne rfl).trans ((p44.ne rfl).trans ((p43.ne rfl).trans ((p42.ne rfl).trans ((p41.ne rfl).trans ((p40.ne rfl).trans ((p39.ne rfl).trans ((p38.ne rfl).trans ((p37.ne rfl).trans ((p36.ne rfl).trans ((p35.ne rfl).trans ((p34.ne rfl).trans ((p33.ne rfl).trans ((p32.ne rfl).trans ((p31.ne rfl).trans (p30.ne rfl))))))))))))))))))))).trans s1
              replace s2 : a50.eval (.tmp 2) = .bool false := ((p50.ne rfl).trans ((p49.ne rfl).trans ((p48.ne rfl).trans ((p47.ne rfl).trans ((p46.ne rfl).trans ((p45.ne rfl).trans ((p44.ne rfl).trans ((p43.ne rfl).trans ((p42.ne rfl).trans ((p41.ne rfl).trans ((p40.ne rfl).trans ((p39.ne rfl).trans ((p38.ne rfl).trans ((p37.ne rfl).trans ((p36.ne rfl).trans ((p35.ne rfl).trans ((p34.ne rfl).trans ((p33.ne rfl).trans ((p32.ne rfl).trans ((p31.ne rfl).trans (p30.ne rfl))))))))))))))))))))).trans s2
              replace s22 : a50.eval (.tmp 22) = .slice B ds.length dp := ((p50.ne rfl).trans ((p49.ne rfl).trans ((p48.ne rfl).trans ((p47.ne rfl).trans ((p46.ne rfl).trans ((p45.ne rfl).trans ((p44.ne rfl).trans ((p43.ne rfl).trans ((p42.ne rfl).trans ((p41.ne rfl).trans ((p40.ne rfl).trans ((p39.ne rfl).trans ((p38.ne rfl).trans ((p37.ne rfl).trans ((p36.ne rfl).trans ((p35.ne rfl).trans ((p34.ne rfl).trans ((p33.ne rfl).trans ((p32.ne rfl).trans ((p31.ne rfl).trans (p30.ne rfl))))))))))))))))))))).trans s22
              replace s23 : a50.eval (.tmp 23) = .int .i64 ((ds.length : Nat) : Int) := ((p50.ne rfl).trans ((p49.ne rfl).trans ((p48.ne rfl).trans ((p47.ne rfl).trans ((p46.ne rfl).trans ((p45.ne rfl).trans ((p44.ne rfl).trans ((p43.ne rfl).trans ((p42.ne rfl).trans ((p41.ne rfl).trans ((p40.ne rfl).trans ((p39.ne rfl).trans ((p38.ne rfl).trans ((p37.ne rfl).trans ((p36.ne rfl).trans ((p35.ne rfl).trans ((p34.ne rfl).trans ((p33.ne rfl).trans ((p32.ne rfl).trans ((p31.ne rfl).trans (p30.ne rfl))))))))))))))))))))).trans s23
              replace s24 : a50.eval (.tmp 24) = .int .i64 ((k : Nat) : Int) := ((p50.ne rfl).trans ((p49.ne rfl).trans ((p48.ne rfl).trans ((p47.ne rfl).trans ((p46.ne rfl).trans ((p45.ne rfl).trans ((p44.ne rfl).trans ((p43.ne rfl).trans ((p42.ne rfl).trans ((p41.ne rfl).trans ((p40.ne rfl).trans ((p39.ne rfl).trans ((p38.ne rfl).trans ((p37.ne rfl).trans ((p36.ne rfl).trans ((p35.ne rfl).trans ((p34.ne rfl).trans ((p33.ne rfl).trans ((p32.ne rfl).trans ((p31.ne rfl).trans (p30.ne rfl))))))))))))))))))))).trans s24
              replace s25 : a50.eval (.tmp 25) = .bool true := ((p50.ne rfl).trans ((p49.ne rfl).trans ((p48.ne rfl).trans ((p47.ne rfl).trans ((p46.ne rfl).trans ((p45.ne rfl).trans ((p44.ne rfl).trans ((p43.ne rfl).trans ((p42.ne rfl).trans ((p41.ne rfl).trans ((p40.ne rfl).trans ((p39.ne rfl).trans ((p38.ne rfl).trans ((p37.ne rfl).trans ((p36.ne rfl).trans ((p35.ne rfl).trans ((p34.ne rfl).trans ((p33.ne rfl).trans ((p32.ne rfl).trans ((p31.ne rfl).trans (p30.ne rfl))))))))))))))))))))).trans s25
              replace s3 : a50.eval (.tmp 3) = .int .i64 ((k : Nat) : Int) := ((p50.ne rfl).trans ((p49.ne rfl).trans ((p48.ne rfl).trans ((p47.ne rfl).trans ((p46.ne rfl).trans ((p45.ne rfl).trans ((p44.ne rfl).trans ((p43.ne rfl).trans ((p42.ne rfl).trans ((p41.ne rfl).trans ((p40.ne rfl).trans ((p39.ne rfl).trans ((p38.ne rfl).trans ((p37.ne rfl).trans ((p36.ne rfl).trans ((p35.ne rfl).trans ((p34.ne rfl).trans ((p33.ne rfl).trans ((p32.ne rfl).trans ((p31.ne rfl).trans (p30.ne rfl))))))))))))))))))))).trans s3
              replace s4 : a50.eval (.tmp 4) = .int .i64 ds[k] := ((p50.ne rfl).trans ((p49.ne rfl).trans ((p48.ne rfl).trans ((p47.ne rfl).trans ((p46.ne rfl).trans ((p45.ne rfl).trans ((p44.ne rfl).trans ((p43.ne rfl).trans ((p42.ne rfl).trans ((p41.ne rfl).trans ((p40.ne rfl).trans ((p39.ne rfl).trans ((p38.ne rfl).trans ((p37.ne rfl).trans ((p36.ne rfl).trans ((p35.ne rfl).trans ((p34.ne rfl).trans ((p33.ne rfl).trans ((p32.ne rfl).trans ((p31.ne rfl).trans (p30.ne rfl))))))))))))))))))))).trans s4
              refine hK22 _ _ ?_
              clear hK22
              by_cases hle : ds[k] ≤ ds[k - 1]
              · replace s49 := s49.trans (congrArg Value.bool (decide_eq_true hle))
                replace s49 : a50.eval (.tmp 49) = .bool true := s49
                refine c_true s49 ?_
                refine wp_seq_k fun K28 hK28 => ?_
                refine wp_region_lit ?_
                refine q_val rfl rfl ?_
                refine g_assign rfl rfl ?_
                intro a51 p51
                have s2 : a51.eval (.tmp 2) = .bool false := p51.at hs (by decide)
                replace hs := p51.st hs
                refine wpList_nil ?_
                replace s1 : a51.eval (.tmp 1) = .pointer (some ⟨q2, 0, none⟩) := (p51.ne rfl).trans s1
                replace s22 : a51.eval (.tmp 22) = .slice B ds.length dp := (p51.ne rfl).trans s22
                replace s23 : a51.eval (.tmp 23) = .int .i64 ((ds.length : Nat) : Int) := (p51.ne rfl).trans s23
                replace s24 : a51.eval (.tmp 24) = .int .i64 ((k : Nat) : Int) := (p51.ne rfl).trans s24
                replace s25 : a51.eval (.tmp 25) = .bool true := (p51.ne rfl).trans s25
                replace s3 : a51.eval (.tmp 3) = .int .i64 ((k : Nat) : Int) := (p51.ne rfl).trans s3
                replace s4 : a51.eval (.tmp 4) = .int .i64 ds[k] := (p51.ne rfl).trans s4
                replace s49 : a51.eval (.tmp 49) = .bool true := (p51.ne rfl).trans s49
                refine hK28 _ _ ?_
                clear hK28
                refine wp_ret ?_
                try dsimp only [Exit.then, Exit.inBlock]
                refine ret1 hs Try.results31 (res_tmp s2) ?_
                exact ⟨by unfold pkrOk; rw [stTo_fail hlt (stAt_bad hlt (by omega) hk0 hle)]; simp, hB⟩
              · replace s49 := s49.trans (congrArg Value.bool (decide_eq_false hle))
                replace s49 : a50.eval (.tmp 49) = .bool false := s49
                refine c_false s49 ?_
                refine wp_skip ?_
                refine hK16 _ _ ?_
                clear hK16
                refine wp_region_lit ?_
                refine q_val rfl rfl ?_
                refine g_add (r := ((k + 1 : Nat) : Int)) rfl s24 rfl (by omega) (by omega) ?_
                intro a51 p51
                have s50 : a51.eval (.tmp 50) = .int .i64 ((k + 1 : Nat) : Int) := p51.at hs (by decide)
                replace hs := p51.st hs
                refine q_val rfl rfl ?_
                refine g_move rfl s50 ?_
                intro a52 p52
                have s24 : a52.eval (.tmp 24) = .int .i64 ((k + 1 : Nat) : Int) := p52.at hs (by decide)
                replace hs := p52.st hs
                refine wpList_nil ?_
                replace s1 : a52.eval (.tmp 1) = .pointer (some ⟨q2, 0, none⟩) := ((p52.ne rfl).trans (p51.ne rfl)).trans s1
                replace s2 : a52.eval (.tmp 2) = .bool false := ((p52.ne rfl).trans (p51.ne rfl)).trans s2
                replace s22 : a52.eval (.tmp 22) = .slice B ds.length dp := ((p52.ne rfl).trans (p51.ne rfl)).trans s22
                replace s23 : a52.eval (.tmp 23) = .int .i64 ((ds.length : Nat) : Int) := ((p52.ne rfl).trans (p51.ne rfl)).trans s23
                replace s25 : a52.eval (.tmp 25) = .bool true := ((p52.ne rfl).trans (p51.ne rfl)).trans s25
                replace s3 : a52.eval (.tmp 3) = .int .i64 ((k : Nat) : Int) := ((p52.ne rfl).trans (p51.ne rfl)).trans s3
                replace s4 : a52.eval (.tmp 4) = .int .i64 ds[k] := ((p52.ne rfl).trans (p51.ne rfl)).trans s4
                replace s49 : a52.eval (.tmp 49) = .bool false := ((p52.ne rfl).trans (p51.ne rfl)).trans s49
                refine show _ ∧ _ from ⟨⟨k + 1, hs, s1, s2, s22, s23, s24, hB, h_q2, by omega, (stTo_step hst (stAt_next hlt (by omega) hin hle))⟩, ?_⟩
                show ds.length - (intOf (a52.eval (.tmp 24))).toNat < ds.length - (intOf (a23.eval (.tmp 24))).toNat
                rw [s24, mu0]
                simp only [intOf]
                omega
            · replace s38 := s38.trans (congrArg Value.bool (decide_eq_false hk0))
              replace s38 : a39.eval (.tmp 38) = .bool false := s38
              replace s39 := s39.trans (congrArg Value.bool (decide_eq_false hk0))
              replace s39 : a40.eval (.tmp 39) = .bool false := s39
              refine q_skip rfl rfl s39 rfl ?_
              intro a41 p41
              have s40 : a41.eval (.tmp 40) = undef := p41.at hs (by decide)
              replace hs := p41.st hs
              refine q_skip rfl rfl ((p41.ne rfl).trans s39) rfl ?_
              intro a42 p42
              have s41 : a42.eval (.tmp 41) = undef := p42.at hs (by decide)
              replace hs := p42.st hs
              refine q_skip rfl rfl (((p42.ne rfl).trans (p41.ne rfl)).trans s39) rfl ?_
              intro a43 p43
              have s42 : a43.eval (.tmp 42) = undef := p43.at hs (by decide)
              replace hs := p43.st hs
              refine q_skip rfl rfl (((p43.ne rfl).trans ((p42.ne rfl).trans (p41.ne rfl))).trans s39) rfl ?_
              intro a44 p44
              have s43 : a44.eval (.tmp 43) = undef := p44.at hs (by decide)
              replace hs := p44.st hs
              refine q_skip rfl rfl (((p44.ne rfl).trans ((p43.ne rfl).trans ((p42.ne rfl).trans (p41.ne rfl)))).trans s39) rfl ?_
              intro a45 p45
              have s44 : a45.eval (.tmp 44) = undef := p45.at hs (by decide)
              replace hs := p45.st hs
              refine q_skip rfl rfl (((p45.ne rfl).trans ((p44.ne rfl).trans ((p43.ne rfl).trans ((p42.ne rfl).trans (p41.ne rfl))))).trans s39) rfl ?_
              intro a46 p46
              have s45 : a46.eval (.tmp 45) = undef := p46.at hs (by decide)
              replace hs := p46.st hs
              refine q_skip rfl rfl (((p46.ne rfl).trans ((p45.ne rfl).trans ((p44.ne rfl).trans ((p43.ne rfl).trans ((p42.ne rfl).trans (p41.ne rfl)))))).trans s39) rfl ?_
              intro a47 p47
              have s46 : a47.eval (.tmp 46) = undef := p47.at hs (by decide)
              replace hs := p47.st hs
              refine q_skip rfl rfl (((p47.ne rfl).trans ((p46.ne rfl).trans ((p45.ne rfl).trans ((p44.ne rfl).trans ((p43.ne rfl).trans ((p42.ne rfl).trans (p41.ne rfl))))))).trans s39) rfl ?_
              intro a48 p48
              have s47 : a48.eval (.tmp 47) = undef := p48.at hs (by decide)
              replace hs := p48.st hs
              refine q_take rfl rfl (((p48.ne rfl).trans ((p47.ne rfl).trans ((p46.ne rfl).trans ((p45.ne rfl).trans ((p44.ne rfl).trans ((p43.ne rfl).trans ((p42.ne rfl).trans ((p41.ne rfl).trans ((p40.ne rfl).trans ((p39.ne rfl).trans (p38.ne rfl))))))))))).trans s36) rfl ?_
              refine g_pick_f rfl (((p48.ne rfl).trans ((p47.ne rfl).trans ((p46.ne rfl).trans ((p45.ne rfl).trans ((p44.ne rfl).trans ((p43.ne rfl).trans ((p42.ne rfl).trans (p41.ne rfl)))))))).trans s39) rfl ?_
              intro a49 p49
              have s48 : a49.eval (.tmp 48) = .bool false := p49.at hs (by decide)
              replace hs := p49.st hs
              refine q_val rfl rfl ?_
              refine g_pick_f rfl (((p49.ne rfl).trans ((p48.ne rfl).trans ((p47.ne rfl).trans ((p46.ne rfl).trans ((p45.ne rfl).trans ((p44.ne rfl).trans ((p43.ne rfl).trans ((p42.ne rfl).trans ((p41.ne rfl).trans ((p40.ne rfl).trans ((p39.ne rfl).trans (p38.ne rfl)))))))))))).trans s36) s48 ?_
              intro a50 p50
              have s49 : a50.eval (.tmp 49) = .bool false := p50.at hs (by decide)
              replace hs := p50.st hs
              refine wpList_nil ?_
              replace s1 : a50.eval (.tmp 1) = .pointer (some ⟨q2, 0, none⟩) := ((p50.ne rfl).trans ((p49.ne rfl).trans ((p48.ne rfl).trans ((p47.ne rfl).trans ((p46.ne rfl).trans ((p45.ne rfl).trans ((p44.ne rfl).trans ((p43.ne rfl).trans ((p42.ne rfl).trans ((p41.ne rfl).trans ((p40.ne rfl).trans ((p39.ne rfl).trans ((p38.ne rfl).trans ((p37.ne rfl).trans ((p36.ne rfl).trans ((p35.ne rfl).trans ((p34.ne rfl).trans ((p33.ne rfl).trans ((p32.ne rfl).trans ((p31.ne rfl).trans (p30.ne rfl))))))))))))))))))))).trans s1
              replace s2 : a50.eval (.tmp 2) = .bool false := ((p50.ne rfl).trans ((p49.ne rfl).trans ((p48.ne rfl).trans ((p47.ne rfl).trans ((p46.ne rfl).trans ((p45.ne rfl).trans ((p44.ne rfl).trans ((p43.ne rfl).trans ((p42.ne rfl).trans ((p41.ne rfl).trans ((p40.ne rfl).trans ((p39.ne rfl).trans ((p38.ne rfl).trans ((p37.ne rfl).trans ((p36.ne rfl).trans ((p35.ne rfl).trans ((p34.ne rfl).trans ((p33.ne rfl).trans ((p32.ne rfl).trans ((p31.ne rfl).trans (p30.ne rfl))))))))))))))))))))).trans s2
              replace s22 : a50.eval (.tmp 22) = .slice B ds.length dp := ((p50.ne rfl).trans ((p49.ne rfl).trans ((p48.ne rfl).trans ((p47.ne rfl).trans ((p46.ne rfl).trans ((p45.ne rfl).trans ((p44.ne rfl).trans ((p43.ne rfl).trans ((p42.ne rfl).trans ((p41.ne rfl).trans ((p40.ne rfl).trans ((p39.ne rfl).trans ((p38.ne rfl).trans ((p37.ne rfl).trans ((p36.ne rfl).trans ((p35.ne rfl).trans ((p34.ne rfl).trans ((p33.ne rfl).trans ((p32.ne rfl).trans ((p31.ne rfl).trans (p30.ne rfl))))))))))))))))))))).trans s22
              replace s23 : a50.eval (.tmp 23) = .int .i64 ((ds.length : Nat) : Int) := ((p50.ne rfl).trans ((p49.ne rfl).trans ((p48.ne rfl).trans ((p47.ne rfl).trans ((p46.ne rfl).trans ((p45.ne rfl).trans ((p44.ne rfl).trans ((p43.ne rfl).trans ((p42.ne rfl).trans ((p41.ne rfl).trans ((p40.ne rfl).trans ((p39.ne rfl).trans ((p38.ne rfl).trans ((p37.ne rfl).trans ((p36.ne rfl).trans ((p35.ne rfl).trans ((p34.ne rfl).trans ((p33.ne rfl).trans ((p32.ne rfl).trans ((p31.ne rfl).trans (p30.ne rfl))))))))))))))))))))).trans s23
              replace s24 : a50.eval (.tmp 24) = .int .i64 ((k : Nat) : Int) := ((p50.ne rfl).trans ((p49.ne rfl).trans ((p48.ne rfl).trans ((p47.ne rfl).trans ((p46.ne rfl).trans ((p45.ne rfl).trans ((p44.ne rfl).trans ((p43.ne rfl).trans ((p42.ne rfl).trans ((p41.ne rfl).trans ((p40.ne rfl).trans ((p39.ne rfl).trans ((p38.ne rfl).trans ((p37.ne rfl).trans ((p36.ne rfl).trans ((p35.ne rfl).trans ((p34.ne rfl).trans ((p33.ne rfl).trans ((p32.ne rfl).trans ((p31.ne rfl).trans (p30.ne rfl))))))))))))))))))))).trans s24
              replace s25 : a50.eval (.tmp 25) = .bool true := ((p50.ne rfl).trans ((p49.ne rfl).trans ((p48.ne rfl).trans ((p47.ne rfl).trans ((p46.ne rfl).trans ((p45.ne rfl).trans ((p44.ne rfl).trans ((p43.ne rfl).trans ((p42.ne rfl).trans ((p41.ne rfl).trans ((p40.ne rfl).trans ((p39.ne rfl).trans ((p38.ne rfl).trans ((p37.ne rfl).trans ((p36.ne rfl).trans ((p35.ne rfl).trans ((p34.ne rfl).trans ((p33.ne rfl).trans ((p32.ne rfl).trans ((p31.ne rfl).trans (p30.ne rfl))))))))))))))))))))).trans s25
              replace s3 : a50.eval (.tmp 3) = .int .i64 ((k : Nat) : Int) := ((p50.ne rfl).trans ((p49.ne rfl).trans ((p48.ne rfl).trans ((p47.ne rfl).trans ((p46.ne rfl).trans ((p45.ne rfl).trans ((p44.ne rfl).trans ((p43.ne rfl).trans ((p42.ne rfl).trans ((p41.ne rfl).trans ((p40.ne rfl).trans ((p39.ne rfl).trans ((p38.ne rfl).trans ((p37.ne rfl).trans ((p36.ne rfl).trans ((p35.ne rfl).trans ((p34.ne rfl).trans ((p33.ne rfl).trans ((p32.ne rfl).trans ((p31.ne rfl).trans (p30.ne rfl))))))))))))))))))))).trans s3
              replace s4 : a50.eval (.tmp 4) = .int .i64 ds[k] := ((p50.ne rfl).trans ((p49.ne rfl).trans ((p48.ne rfl).trans ((p47.ne rfl).trans ((p46.ne rfl).trans ((p45.ne rfl).trans ((p44.ne rfl).trans ((p43.ne rfl).trans ((p42.ne rfl).trans ((p41.ne rfl).trans ((p40.ne rfl).trans ((p39.ne rfl).trans ((p38.ne rfl).trans ((p37.ne rfl).trans ((p36.ne rfl).trans ((p35.ne rfl).trans ((p34.ne rfl).trans ((p33.ne rfl).trans ((p32.ne rfl).trans ((p31.ne rfl).trans (p30.ne rfl))))))))))))))))))))).trans s4
              refine hK22 _ _ ?_
              clear hK22
              refine c_false s49 ?_
              refine wp_skip ?_
              refine hK16 _ _ ?_
              clear hK16
              refine wp_region_lit ?_
              refine q_val rfl rfl ?_
              refine g_add (r := ((k + 1 : Nat) : Int)) rfl s24 rfl (by omega) (by omega) ?_
              intro a51 p51
              have s50 : a51.eval (.tmp 50) = .int .i64 ((k + 1 : Nat) : Int) := p51.at hs (by decide)
              replace hs := p51.st hs
              refine q_val rfl rfl ?_
              refine g_move rfl s50 ?_
              intro a52 p52
              have s24 : a52.eval (.tmp 24) = .int .i64 ((k + 1 : Nat) : Int) := p52.at hs (by decide)
              replace hs := p52.st hs
              refine wpList_nil ?_
              replace s1 : a52.eval (.tmp 1) = .pointer (some ⟨q2, 0, none⟩) := ((p52.ne rfl).trans (p51.ne rfl)).trans s1
              replace s2 : a52.eval (.tmp 2) = .bool false := ((p52.ne rfl).trans (p51.ne rfl)).trans s2
              replace s22 : a52.eval (.tmp 22) = .slice B ds.length dp := ((p52.ne rfl).trans (p51.ne rfl)).trans s22
              replace s23 : a52.eval (.tmp 23) = .int .i64 ((ds.length : Nat) : Int) := ((p52.ne rfl).trans (p51.ne rfl)).trans s23
              replace s25 : a52.eval (.tmp 25) = .bool true := ((p52.ne rfl).trans (p51.ne rfl)).trans s25
              replace s3 : a52.eval (.tmp 3) = .int .i64 ((k : Nat) : Int) := ((p52.ne rfl).trans (p51.ne rfl)).trans s3
              replace s4 : a52.eval (.tmp 4) = .int .i64 ds[k] := ((p52.ne rfl).trans (p51.ne rfl)).trans s4
              replace s49 : a52.eval (.tmp 49) = .bool false := ((p52.ne rfl).trans (p51.ne rfl)).trans s49
              refine show _ ∧ _ from ⟨⟨k + 1, hs, s1, s2, s22, s23, s24, hB, h_q2, by omega, (stTo_step hst (stAt_first hlt hin hk0))⟩, ?_⟩
              show ds.length - (intOf (a52.eval (.tmp 24))).toNat < ds.length - (intOf (a23.eval (.tmp 24))).toNat
              rw [s24, mu0]
              simp only [intOf]
              omega
        · replace s25 := s25.trans (congrArg Value.bool (decide_eq_false hc15))
          replace s25 : a24.eval (.tmp 25) = .bool false := s25
          refine c_false s25 ?_
          refine wp_exit ?_
          refine hK9 _ _ ?_
          clear hK9
          refine wp_seq_k fun K29 hK29 => ?_
          have hkz : k = ds.length := by omega
          subst hkz
          refine wp_region_lit ?_
          refine q_val rfl rfl ?_
          refine g_assign rfl rfl ?_
          intro a25 p25
          have s2 : a25.eval (.tmp 2) = .bool true := p25.at hs (by decide)
          replace hs := p25.st hs
          refine wpList_nil ?_
          refine hK29 _ _ ?_
          clear hK29
          refine wp_ret ?_
          try dsimp only [Exit.then, Exit.inBlock]
          refine ret1 hs Try.results31 (res_tmp s2) ?_
          exact ⟨by unfold pkrOk; rw [hst, h1, h2, decide_eq_true (by omega : ((rest.length : Nat) : Int) ≤ 5000)]; rfl, hB⟩
set_option maxRecDepth 100000 in
set_option maxHeartbeats 4000000 in
theorem sPackerOk_any (ch ct : Int) (rest : List UInt8) (B : Option Addr) (m dp : Nat) (ds : List Int) (w : World) (hx : Txt rest) (hm : ds.length = m) (hbm : m ≤ 1048577) (hr_d : Rd w 1 B m (ds.flatMap cI)) :
    Calls Try.prog 40 #[.agg #[.int .i64 ch, .int .i64 ct, .string ⟨rest.toArray⟩, .slice B m dp]] w fun e w' => e = .returned (.bool (pkrOk ch ct rest ds)) ∧ Below w.heap.size w w' := by
  subst hm
  unfold Txt at hx
  refine enter 54 Try.func40 rfl rfl (Nat.le_of_ble_eq_true rfl) ?_
  intro a0 hs hargs
  have s0 : a0.eval (.tmp 0) = .agg #[.int .i64 ch, .int .i64 ct, .string ⟨(rest).toArray⟩, .slice B ds.length dp] := hargs 0 _ rfl
  clear hargs
  have hB : Below w.heap.size w w := Below.refl _ _
  refine wp_seq_k fun K1 hK1 => ?_
  refine wp_region_lit ?_
  refine q_val rfl rfl ?_
  refine g_box rfl s0 rfl ?_
  intro q2 w3 N_q2
  have g_q2 : GeB w.heap.size q2 := ⟨Nat.le_trans hB.size N_q2.lo⟩
  replace hB := below_new hB hB.size N_q2
  have h_q2 := N_q2.here
  clear N_q2
  intro a1 p1
  have s1 : a1.eval (.tmp 1) = .pointer (some ⟨q2, 0, none⟩) := p1.at hs (by decide)
  replace hs := p1.st hs
  refine q_val rfl rfl ?_
  refine g_assign rfl rfl ?_
  intro a2 p2
  have s2 : a2.eval (.tmp 2) = .bool false := p2.at hs (by decide)
  replace hs := p2.st hs
  refine wpList_nil ?_
  replace s1 : a2.eval (.tmp 1) = .pointer (some ⟨q2, 0, none⟩) := (p2.ne rfl).trans s1
  refine hK1 _ _ ?_
  clear hK1
  refine wp_seq_k fun K4 hK4 => ?_
  refine wp_seq_k fun K5 hK5 => ?_
  refine wp_region_lit ?_
  refine q_val rfl rfl ?_
  refine g_assign rfl rfl ?_
  intro a3 p3
  have s3 : a3.eval (.tmp 3) = .int .i64 0 := p3.at hs (by decide)
  replace hs := p3.st hs
  refine wpList_nil ?_
  replace s1 : a3.eval (.tmp 1) = .pointer (some ⟨q2, 0, none⟩) := (p3.ne rfl).trans s1
  replace s2 : a3.eval (.tmp 2) = .bool false := (p3.ne rfl).trans s2
  refine hK5 _ _ ?_
  clear hK5
  refine wp_block ?_
  refine wp_loop (fun a wr => ∃ (k : Nat), (St 54 a) ∧ (a.eval (.tmp 1) = .pointer (some ⟨q2, 0, none⟩)) ∧ (a.eval (.tmp 2) = .bool false) ∧ (a.eval (.tmp 3) = .int .i64 ((k : Nat) : Int)) ∧ (Below w.heap.size w wr) ∧ (wr.heap[q2]? = some (.cells #[.int .i64 ch, .int .i64 ct, .string ⟨(rest).toArray⟩, .slice B ds.length dp] 28 (0, 0))) ∧ (k ≤ ds.length) ∧ (stTo ((((rest).length : Nat) : Int) - 1) ds k = true)) (fun a _ => ds.length - (intOf (a.eval (.tmp 3))).toNat) (⟨0, hs, s1, s2, s3, hB, h_q2, Nat.zero_le _, rfl⟩) ?_
  intro a4 w7 hI
  obtain ⟨k, hs, s1, s2, s3, hB, h_q2, hk, hst⟩ := hI
  have mu0 := s3
  refine wp_seq_k fun K8 hK8 => ?_
  refine wp_seq_k fun K9 hK9 => ?_
  refine wp_region_lit ?_
  refine q_val rfl rfl ?_
  refine g_move rfl s3 ?_
  intro a5 p5
  have s4 : a5.eval (.tmp 4) = .int .i64 ((k : Nat) : Int) := p5.at hs (by decide)
  replace hs := p5.st hs
  refine q_val rfl rfl ?_
  refine g_field (r := 3) rfl ((p5.ne rfl).trans s1) Try.underlying28 rfl (fun w => Try.sizeOf26 w) rfl rfl ?_
  intro a6 p6
  have s5 : a6.eval (.tmp 5) = .pointer (some ⟨q2, 3, none⟩) := p6.at hs (by decide)
  replace hs := p6.st hs
  refine q_val rfl rfl ?_
  refine g_load rfl s5 Try.isAgg26 (box_cell h_q2 rfl) ?_
  intro a7 p7
  have s6 : a7.eval (.tmp 6) = .slice B ds.length dp := p7.at hs (by decide)
  replace hs := p7.st hs
  refine q_val rfl rfl ?_
  refine g_len (e := _) rfl Try.underlying26 s6 ?_
  intro a8 p8
  have s7 : a8.eval (.tmp 7) = .int .i64 ((ds.length : Nat) : Int) := p8.at hs (by decide)
  replace hs := p8.st hs
  refine q_val rfl rfl ?_
  refine g_lss rfl (((p8.ne rfl).trans ((p7.ne rfl).trans (p6.ne rfl))).trans s4) s7 ?_
  intro a9 p9
  have s8 : a9.eval (.tmp 8) = .bool (decide (((k : Nat) : Int) < ((ds.length : Nat) : Int))) := p9.at hs (by decide)
  replace hs := p9.st hs
  refine wpList_nil ?_
  replace s1 : a9.eval (.tmp 1) = .pointer (some ⟨q2, 0, none⟩) := ((p9.ne rfl).trans ((p8.ne rfl).trans ((p7.ne rfl).trans ((p6.ne rfl).trans (p5.ne rfl))))).trans s1
  replace s2 : a9.eval (.tmp 2) = .bool false := ((p9.ne rfl).trans ((p8.ne rfl).trans ((p7.ne rfl).trans ((p6.ne rfl).trans (p5.ne rfl))))).trans s2
  replace s3 : a9.eval (.tmp 3) = .int .i64 ((k : Nat) : Int) := ((p9.ne rfl).trans ((p8.ne rfl).trans ((p7.ne rfl).trans ((p6.ne rfl).trans (p5.ne rfl))))).trans s3
  refine hK9 _ _ ?_
  clear hK9
  by_cases hc10 : ((k : Nat) : Int) < ((ds.length : Nat) : Int)
  · replace s8 := s8.trans (congrArg Value.bool (decide_eq_true hc10))
    replace s8 : a9.eval (.tmp 8) = .bool true := s8
    refine c_true s8 ?_
    refine wp_skip ?_
    refine hK8 _ _ ?_
    clear hK8
    refine wp_seq_k fun K11 hK11 => ?_
    refine wp_block ?_
    refine wp_seq_k fun K12 hK12 => ?_
    have hlt : k < ds.length := by omega
    cases hin : inB ds[k] 0 ((((rest).length : Nat) : Int) - 1)
    · have hlt : k < ds.length := by omega
      obtain ⟨b17, o18, hA19, hl_hc20, hc20⟩ := Rd.get cI_len (hr_d.below hB) rfl (i := k) (by omega)
      refine wp_drawn (n := 54) [] [] [] (fun k_ v_ _wx => match k_ with | 0 => v_ = .pointer (some ⟨q2, 3, none⟩) | 1 => v_ = .slice B ds.length dp | 2 => v_ = .int .i64 ((k : Nat) : Int) | 3 => v_ = .pointer (some ⟨b17, o18 + k * 1, none⟩) | 4 => v_ = .int .i64 ds[k] | 5 => v_ = .pointer (some ⟨q2, 2, none⟩) | 6 => v_ = .string ⟨(rest).toArray⟩ | 7 => v_ = .int .i64 (((rest).length : Nat) : Int) | 8 => v_ = .int .i64 ((((rest).length : Nat) : Int) - 1) | 9 => v_ = .bool false | 10 => v_ = .bool true | 11 => v_ = .bool true | 14 => v_ = undef | 28 => v_ = .bool true | _ => True) (by kernel_rfl) (by kernel_rfl) (by kernel_rfl) (by kernel_rfl) hs.size ?_ ?_ ?_
      · intro i v wa wb hb hr
        rcases i with _ | _ | _ | _ | _ | _ | _ | _ | _ | _ | _ | _ | _ | _ | _ | _ | _ | _ | _ | _ | _ | _ | _ | _ | _ | _ | _ | _ | _ | i
        · exact hr
        · exact hr
        · exact hr
        · exact hr
        · exact hr
        · exact hr
        · exact hr
        · exact hr
        · exact hr
        · exact hr
        · exact hr
        · exact hr
        · trivial
        · trivial
        · exact hr
        · trivial
        · trivial
        · trivial
        · trivial
        · trivial
        · trivial
        · trivial
        · trivial
        · trivial
        · trivial
        · trivial
        · trivial
        · trivial
        · exact hr
        · trivial
      · refine d_step rfl rfl ?_ (d_step rfl rfl ?_ (d_step rfl rfl ?_ (d_step rfl rfl ?_ (d_step rfl rfl ?_ (d_step rfl rfl ?_ (d_step rfl rfl ?_ (d_step rfl rfl ?_ (d_step rfl rfl ?_ (d_step rfl rfl ?_ (d_step rfl rfl ?_ (d_step rfl rfl ?_ (d_skip 11 false 22 rfl rfl rfl (fun v w h => Or.inl h) (fun w => trivial) (d_skip 11 false 22 rfl rfl rfl (fun v w h => Or.inl h) (fun w => trivial) (d_skip 11 false 22 rfl rfl rfl (fun v w h => Or.inl h) (fun w => rfl) (d_skip 14 true 25 rfl rfl rfl (fun v w h => Or.inr h) (fun w => trivial) (d_skip 14 true 25 rfl rfl rfl (fun v w h => Or.inr h) (fun w => trivial) (d_skip 14 true 25 rfl rfl rfl (fun v w h => Or.inr h) (fun w => trivial) (d_skip 14 true 25 rfl rfl rfl (fun v w h => Or.inr h) (fun w => trivial) (d_skip 14 true 25 rfl rfl rfl (fun v w h => Or.inr h) (fun w => trivial) (d_skip 14 true 25 rfl rfl rfl (fun v w h => Or.inr h) (fun w => trivial) (d_skip 14 true 25 rfl rfl rfl (fun v w h => Or.inr h) (fun w => trivial) (d_skip 14 true 25 rfl rfl rfl (fun v w h => Or.inr h) (fun w => trivial) (d_skip 14 true 25 rfl rfl rfl (fun v w h => Or.inr h) (fun w => trivial) (d_skip 14 true 25 rfl rfl rfl (fun v w h => Or.inr h) (fun w => trivial) (d_skip 14 true 25 rfl rfl rfl (fun v w h => Or.inr h) (fun w => trivial) (d_skip 14 true 25 rfl rfl rfl (fun v w h => Or.inr h) (fun w => trivial) (d_skip 11 false 22 rfl rfl rfl (fun v w h => Or.inl h) (fun w => trivial) (d_step rfl rfl ?_ (d_nil)))))))))))))))))))))))))))))
        · intro xv_ wx ρ hρ hwx hd K hK
          have e1 : ρ (.tmp 1) = .pointer (some ⟨q2, 0, none⟩) := (hρ.inn 1 rfl).trans s1
          refine g_field (r := 3) rfl e1 Try.underlying28 rfl (fun w => Try.sizeOf26 w) rfl rfl ?_
          exact hK _ _ (Below.refl _ _) rfl
        · intro xv_ wx ρ hρ hwx hd K hK
          obtain r0 : xv_ 0 = .pointer (some ⟨q2, 3, none⟩) := hd 0 rfl
          have e11 : ρ (.tmp 11) = .pointer (some ⟨q2, 3, none⟩) := (hρ.out 0 11 rfl (by rw [hs.size]; decide) rfl).trans r0
          have h_q2 := keep_below h_q2 hwx
          refine g_load rfl e11 Try.isAgg26 (box_cell h_q2 rfl) ?_
          exact hK _ _ (Below.refl _ _) rfl
        · intro xv_ wx ρ hρ hwx hd K hK
          have e3 : ρ (.tmp 3) = .int .i64 ((k : Nat) : Int) := (hρ.inn 3 rfl).trans s3
          refine g_move rfl e3 ?_
          exact hK _ _ (Below.refl _ _) rfl
        · intro xv_ wx ρ hρ hwx hd K hK
          obtain r1 : xv_ 1 = .slice B ds.length dp := hd 1 rfl
          have e12 : ρ (.tmp 12) = .slice B ds.length dp := (hρ.out 1 12 rfl (by rw [hs.size]; decide) rfl).trans r1
          obtain r2 : xv_ 2 = .int .i64 ((k : Nat) : Int) := hd 2 rfl
          have e13 : ρ (.tmp 13) = .int .i64 ((k : Nat) : Int) := (hρ.out 2 13 rfl (by rw [hs.size]; decide) rfl).trans r2
          refine g_index (r := o18 + k * 1) (k := k) rfl (e12.trans (slice_at hA19)) e13 Try.underlying26 (fun w => Try.sizeOf3 w) (by omega) rfl ?_
          exact hK _ _ (Below.refl _ _) rfl
        · intro xv_ wx ρ hρ hwx hd K hK
          obtain r3 : xv_ 3 = .pointer (some ⟨b17, o18 + k * 1, none⟩) := hd 3 rfl
          have e14 : ρ (.tmp 14) = .pointer (some ⟨b17, o18 + k * 1, none⟩) := (hρ.out 3 14 rfl (by rw [hs.size]; decide) rfl).trans r3
          have hc20 := elem_below hc20 hwx hl_hc20
          refine g_load rfl e14 Try.isAgg3 (by first | exact hc20 0 _ (by decide) rfl | (rw [Nat.add_assoc]; exact hc20 0 _ (by decide) rfl)) ?_
          exact hK _ _ (Below.refl _ _) rfl
        · intro xv_ wx ρ hρ hwx hd K hK
          have e1 : ρ (.tmp 1) = .pointer (some ⟨q2, 0, none⟩) := (hρ.inn 1 rfl).trans s1
          refine g_field (r := 2) rfl e1 Try.underlying28 rfl (fun w => Try.sizeOf9 w) rfl rfl ?_
          exact hK _ _ (Below.refl _ _) rfl
        · intro xv_ wx ρ hρ hwx hd K hK
          obtain r5 : xv_ 5 = .pointer (some ⟨q2, 2, none⟩) := hd 5 rfl
          have e16 : ρ (.tmp 16) = .pointer (some ⟨q2, 2, none⟩) := (hρ.out 5 16 rfl (by rw [hs.size]; decide) rfl).trans r5
          have h_q2 := keep_below h_q2 hwx
          refine g_load rfl e16 Try.isAgg9 (box_cell h_q2 rfl) ?_
          exact hK _ _ (Below.refl _ _) rfl
        · intro xv_ wx ρ hρ hwx hd K hK
          obtain r6 : xv_ 6 = .string ⟨(rest).toArray⟩ := hd 6 rfl
          have e17 : ρ (.tmp 17) = .string ⟨(rest).toArray⟩ := (hρ.out 6 17 rfl (by rw [hs.size]; decide) rfl).trans r6
          refine g_lenS rfl Try.underlying9 e17 ?_
          exact hK _ _ (Below.refl _ _) rfl
        · intro xv_ wx ρ hρ hwx hd K hK
          obtain r7 : xv_ 7 = .int .i64 (((rest).length : Nat) : Int) := hd 7 rfl
          have e18 : ρ (.tmp 18) = .int .i64 (((rest).length : Nat) : Int) := (hρ.out 7 18 rfl (by rw [hs.size]; decide) rfl).trans r7
          refine g_sub (r := (((rest).length : Nat) : Int) - 1) rfl e18 ((hρ.cst _)) (by omega) (by omega) ?_
          exact hK _ _ (Below.refl _ _) rfl
        · intro xv_ wx ρ hρ hwx hd K hK
          obtain r4 : xv_ 4 = .int .i64 ds[k] := hd 4 rfl
          have e15 : ρ (.tmp 15) = .int .i64 ds[k] := (hρ.out 4 15 rfl (by rw [hs.size]; decide) rfl).trans r4
          obtain r8 : xv_ 8 = .int .i64 ((((rest).length : Nat) : Int) - 1) := hd 8 rfl
          have e19 : ρ (.tmp 19) = .int .i64 ((((rest).length : Nat) : Int) - 1) := (hρ.out 8 19 rfl (by rw [hs.size]; decide) rfl).trans r8
          refine g_call rfl (hρ.fn _) Try.call62 (arr3 e15 (hρ.cst _) e19) ?_
          refine (l01In_any _ _ _ _).mono ?_
          rintro e w' ⟨rfl, rfl⟩
          exact ⟨_, rfl, hK _ _ (Below.refl _ _) (congrArg Value.bool hin)⟩
        · intro xv_ wx ρ hρ hwx hd K hK
          obtain r9 : xv_ 9 = .bool false := hd 9 rfl
          have e20 : ρ (.tmp 20) = .bool false := (hρ.out 9 20 rfl (by rw [hs.size]; decide) rfl).trans r9
          refine g_not rfl e20 ?_
          exact hK _ _ (Below.refl _ _) rfl
        · intro xv_ wx ρ hρ hwx hd K hK
          obtain r10 : xv_ 10 = .bool true := hd 10 rfl
          have e21 : ρ (.tmp 21) = .bool true := (hρ.out 10 21 rfl (by rw [hs.size]; decide) rfl).trans r10
          refine g_move rfl e21 ?_
          exact hK _ _ (Below.refl _ _) rfl
        · intro xv_ wx ρ hρ hwx hd K hK
          obtain r11 : xv_ 11 = .bool true := hd 11 rfl
          have e22 : ρ (.tmp 22) = .bool true := (hρ.out 11 22 rfl (by rw [hs.size]; decide) rfl).trans r11
          refine g_pick_t rfl e22 ((hρ.cst _)) ?_
          exact hK _ _ (Below.refl _ _) rfl
      · intro x0_ w21 hb_w21 hr0
        obtain r0 : x0_ 0 = .pointer (some ⟨q2, 3, none⟩) := hr0 0 (by decide) rfl rfl
        obtain r1 : x0_ 1 = .slice B ds.length dp := hr0 1 (by decide) rfl rfl
        obtain r2 : x0_ 2 = .int .i64 ((k : Nat) : Int) := hr0 2 (by decide) rfl rfl
        obtain r3 : x0_ 3 = .pointer (some ⟨b17, o18 + k * 1, none⟩) := hr0 3 (by decide) rfl rfl
        obtain r4 : x0_ 4 = .int .i64 ds[k] := hr0 4 (by decide) rfl rfl
        obtain r5 : x0_ 5 = .pointer (some ⟨q2, 2, none⟩) := hr0 5 (by decide) rfl rfl
        obtain r6 : x0_ 6 = .string ⟨(rest).toArray⟩ := hr0 6 (by decide) rfl rfl
        obtain r7 : x0_ 7 = .int .i64 (((rest).length : Nat) : Int) := hr0 7 (by decide) rfl rfl
        obtain r8 : x0_ 8 = .int .i64 ((((rest).length : Nat) : Int) - 1) := hr0 8 (by decide) rfl rfl
        obtain r9 : x0_ 9 = .bool false := hr0 9 (by decide) rfl rfl
        obtain r10 : x0_ 10 = .bool true := hr0 10 (by decide) rfl rfl
        obtain r11 : x0_ 11 = .bool true := hr0 11 (by decide) rfl rfl
        obtain r28 : x0_ 28 = .bool true := hr0 28 (by decide) rfl rfl
        clear hr0
        replace h_q2 := keep_below h_q2 hb_w21
        replace hB := hB.trans (hb_w21.mono hB.size)
        clear hb_w21
        intro xv_ a10 hρ hsz hdf qx_ ql_ qk_ qlk_
        replace s1 : a10.eval (.tmp 1) = .pointer (some ⟨q2, 0, none⟩) := (hρ.inn 1 rfl).trans s1
        replace s2 : a10.eval (.tmp 2) = .bool false := (hρ.inn 2 rfl).trans s2
        replace s3 : a10.eval (.tmp 3) = .int .i64 ((k : Nat) : Int) := (hρ.inn 3 rfl).trans s3
        replace s8 : a10.eval (.tmp 8) = .bool true := (hρ.inn 8 rfl).trans s8
        have s39 : a10.eval (.tmp 39) = .bool true := (hρ.out 28 39 rfl (by rw [hs.size]; decide)).trans ((qx_ 28 (by decide) rfl rfl).trans r28)
        replace hs : St 54 a10 := ⟨hsz.trans hs.size, hdf.trans hs.nodef⟩
        clear hρ hsz hdf qx_ ql_ qk_ qlk_
        refine hK12 _ _ ?_
        clear hK12
        refine c_true s39 ?_
        refine wp_seq_k fun K22 hK22 => ?_
        refine wp_region_lit ?_
        refine q_val rfl rfl ?_
        refine g_assign rfl rfl ?_
        intro a11 p11
        have s2 : a11.eval (.tmp 2) = .bool false := p11.at hs (by decide)
        replace hs := p11.st hs
        refine wpList_nil ?_
        replace s1 : a11.eval (.tmp 1) = .pointer (some ⟨q2, 0, none⟩) := (p11.ne rfl).trans s1
        replace s3 : a11.eval (.tmp 3) = .int .i64 ((k : Nat) : Int) := (p11.ne rfl).trans s3
        replace s8 : a11.eval (.tmp 8) = .bool true := (p11.ne rfl).trans s8
        replace s39 : a11.eval (.tmp 39) = .bool true := (p11.ne rfl).trans s39
        refine hK22 _ _ ?_
        clear hK22
        refine wp_ret ?_
        try dsimp only [Exit.then, Exit.inBlock]
        refine ret1 hs Try.results40 (res_tmp s2) ?_
        exact ⟨by unfold pkrOk; rw [stTo_fail hlt (stAt_no hlt hin)]; simp, hB⟩
    · have hlt : k < ds.length := by omega
      by_cases hk0 : 0 < ((k : Nat) : Int)
      · have hlt : k < ds.length := by omega
        obtain ⟨b27, o28, hA29, hl_hc30, hc30⟩ := Rd.get cI_len (hr_d.below hB) rfl (i := k) (by omega)
        obtain ⟨b31, o32, hA33, hl_hc34, hc34⟩ := Rd.get cI_len (hr_d.below hB) rfl (i := k) (by omega)
        obtain ⟨b35, o36, hA37, hl_hc38, hc38⟩ := Rd.get cI_len (hr_d.below hB) rfl (i := k - 1) (by omega)
        refine wp_drawn (n := 54) [] [] [] (fun k_ v_ _wx => match k_ with | 0 => v_ = .pointer (some ⟨q2, 3, none⟩) | 1 => v_ = .slice B ds.length dp | 2 => v_ = .int .i64 ((k : Nat) : Int) | 3 => v_ = .pointer (some ⟨b27, o28 + k * 1, none⟩) | 4 => v_ = .int .i64 ds[k] | 5 => v_ = .pointer (some ⟨q2, 2, none⟩) | 6 => v_ = .string ⟨(rest).toArray⟩ | 7 => v_ = .int .i64 (((rest).length : Nat) : Int) | 8 => v_ = .int .i64 ((((rest).length : Nat) : Int) - 1) | 9 => v_ = .bool true | 10 => v_ = .bool false | 11 => v_ = .bool false | 12 => v_ = .int .i64 ((k : Nat) : Int) | 13 => v_ = .bool true | 14 => v_ = .bool true | 15 => v_ = .pointer (some ⟨q2, 3, none⟩) | 16 => v_ = .slice B ds.length dp | 17 => v_ = .int .i64 ((k : Nat) : Int) | 18 => v_ = .pointer (some ⟨b31, o32 + k * 1, none⟩) | 19 => v_ = .int .i64 ds[k] | 20 => v_ = .pointer (some ⟨q2, 3, none⟩) | 21 => v_ = .slice B ds.length dp | 22 => v_ = .int .i64 ((k : Nat) : Int) | 23 => v_ = .int .i64 ((k - 1 : Nat) : Int) | 24 => v_ = .pointer (some ⟨b35, o36 + (k - 1) * 1, none⟩) | 25 => v_ = .int .i64 ds[k - 1] | 26 => v_ = .bool (decide (ds[k] ≤ ds[k - 1])) | 27 => v_ = .bool (decide (ds[k] ≤ ds[k - 1])) | 28 => v_ = .bool (decide (ds[k] ≤ ds[k - 1])) | _ => True) (by kernel_rfl) (by kernel_rfl) (by kernel_rfl) (by kernel_rfl) hs.size ?_ ?_ ?_
        · intro i v wa wb hb hr
          rcases i with _ | _ | _ | _ | _ | _ | _ | _ | _ | _ | _ | _ | _ | _ | _ | _ | _ | _ | _ | _ | _ | _ | _ | _ | _ | _ | _ | _ | _ | i
          · exact hr
          · exact hr
          · exact hr
          · exact hr
          · exact hr
          · exact hr
          · exact hr
          · exact hr
          · exact hr
          · exact hr
          · exact hr
          · exact hr
          · exact hr
          · exact hr
          · exact hr
          · exact hr
          · exact hr
          · exact hr
          · exact hr
          · exact hr
          · exact hr
          · exact hr
          · exact hr
          · exact hr
          · exact hr
          · exact hr
          · exact hr
          · exact hr
          · exact hr
          · trivial
        · refine d_step rfl rfl ?_ (d_step rfl rfl ?_ (d_step rfl rfl ?_ (d_step rfl rfl ?_ (d_step rfl rfl ?_ (d_step rfl rfl ?_ (d_step rfl rfl ?_ (d_step rfl rfl ?_ (d_step rfl rfl ?_ (d_step rfl rfl ?_ (d_step rfl rfl ?_ (d_step rfl rfl ?_ (d_take rfl 11 false 22 rfl rfl rfl (fun v w h => h) ?_ (d_take rfl 11 false 22 rfl rfl rfl (fun v w h => h) ?_ (d_take rfl 11 false 22 rfl rfl rfl (fun v w h => h) ?_ (d_take rfl 14 true 25 rfl rfl rfl (fun v w h => h) ?_ (d_take rfl 14 true 25 rfl rfl rfl (fun v w h => h) ?_ (d_take rfl 14 true 25 rfl rfl rfl (fun v w h => h) ?_ (d_take rfl 14 true 25 rfl rfl rfl (fun v w h => h) ?_ (d_take rfl 14 true 25 rfl rfl rfl (fun v w h => h) ?_ (d_take rfl 14 true 25 rfl rfl rfl (fun v w h => h) ?_ (d_take rfl 14 true 25 rfl rfl rfl (fun v w h => h) ?_ (d_take rfl 14 true 25 rfl rfl rfl (fun v w h => h) ?_ (d_take rfl 14 true 25 rfl rfl rfl (fun v w h => h) ?_ (d_take rfl 14 true 25 rfl rfl rfl (fun v w h => h) ?_ (d_take rfl 14 true 25 rfl rfl rfl (fun v w h => h) ?_ (d_take rfl 14 true 25 rfl rfl rfl (fun v w h => h) ?_ (d_take rfl 11 false 22 rfl rfl rfl (fun v w h => h) ?_ (d_step rfl rfl ?_ (d_nil)))))))))))))))))))))))))))))
          · intro xv_ wx ρ hρ hwx hd K hK
            have e1 : ρ (.tmp 1) = .pointer (some ⟨q2, 0, none⟩) := (hρ.inn 1 rfl).trans s1
            refine g_field (r := 3) rfl e1 Try.underlying28 rfl (fun w => Try.sizeOf26 w) rfl rfl ?_
            exact hK _ _ (Below.refl _ _) rfl
          · intro xv_ wx ρ hρ hwx hd K hK
            obtain r0 : xv_ 0 = .pointer (some ⟨q2, 3, none⟩) := hd 0 rfl
            have e11 : ρ (.tmp 11) = .pointer (some ⟨q2, 3, none⟩) := (hρ.out 0 11 rfl (by rw [hs.size]; decide) rfl).trans r0
            have h_q2 := keep_below h_q2 hwx
            refine g_load rfl e11 Try.isAgg26 (box_cell h_q2 rfl) ?_
            exact hK _ _ (Below.refl _ _) rfl
          · intro xv_ wx ρ hρ hwx hd K hK
            have e3 : ρ (.tmp 3) = .int .i64 ((k : Nat) : Int) := (hρ.inn 3 rfl).trans s3
            refine g_move rfl e3 ?_
            exact hK _ _ (Below.refl _ _) rfl
          · intro xv_ wx ρ hρ hwx hd K hK
            obtain r1 : xv_ 1 = .slice B ds.length dp := hd 1 rfl
            have e12 : ρ (.tmp 12) = .slice B ds.length dp := (hρ.out 1 12 rfl (by rw [hs.size]; decide) rfl).trans r1
            obtain r2 : xv_ 2 = .int .i64 ((k : Nat) : Int) := hd 2 rfl
            have e13 : ρ (.tmp 13) = .int .i64 ((k : Nat) : Int) := (hρ.out 2 13 rfl (by rw [hs.size]; decide) rfl).trans r2
            refine g_index (r := o28 + k * 1) (k := k) rfl (e12.trans (slice_at hA29)) e13 Try.underlying26 (fun w => Try.sizeOf3 w) (by omega) rfl ?_
            exact hK _ _ (Below.refl _ _) rfl
          · intro xv_ wx ρ hρ hwx hd K hK
            obtain r3 : xv_ 3 = .pointer (some ⟨b27, o28 + k * 1, none⟩) := hd 3 rfl
            have e14 : ρ (.tmp 14) = .pointer (some ⟨b27, o28 + k * 1, none⟩) := (hρ.out 3 14 rfl (by rw [hs.size]; decide) rfl).trans r3
            have hc30 := elem_below hc30 hwx hl_hc30
            refine g_load rfl e14 Try.isAgg3 (by first | exact hc30 0 _ (by decide) rfl | (rw [Nat.add_assoc]; exact hc30 0 _ (by decide) rfl)) ?_
            exact hK _ _ (Below.refl _ _) rfl
          · intro xv_ wx ρ hρ hwx hd K hK
            have e1 : ρ (.tmp 1) = .pointer (some ⟨q2, 0, none⟩) := (hρ.inn 1 rfl).trans s1
            refine g_field (r := 2) rfl e1 Try.underlying28 rfl (fun w => Try.sizeOf9 w) rfl rfl ?_
            exact hK _ _ (Below.refl _ _) rfl
          · intro xv_ wx ρ hρ hwx hd K hK
            obtain r5 : xv_ 5 = .pointer (some ⟨q2, 2, none⟩) := hd 5 rfl
            have e16 : ρ (.tmp 16) = .pointer (some ⟨q2, 2, none⟩) := (hρ.out 5 16 rfl (by rw [hs.size]; decide) rfl).trans r5
            have h_q2 := keep_below h_q2 hwx
            refine g_load rfl e16 Try.isAgg9 (box_cell h_q2 rfl) ?_
            exact hK _ _ (Below.refl _ _) rfl
          · intro xv_ wx ρ hρ hwx hd K hK
            obtain r6 : xv_ 6 = .string ⟨(rest).toArray⟩ := hd 6 rfl
            have e17 : ρ (.tmp 17) = .string ⟨(rest).toArray⟩ := (hρ.out 6 17 rfl (by rw [hs.size]; decide) rfl).trans r6
            refine g_lenS rfl Try.underlying9 e17 ?_
            exact hK _ _ (Below.refl _ _) rfl
          · intro xv_ wx ρ hρ hwx hd K hK
            obtain r7 : xv_ 7 = .int .i64 (((rest).length : Nat) : Int) := hd 7 rfl
            have e18 : ρ (.tmp 18) = .int .i64 (((rest).length : Nat) : Int) := (hρ.out 7 18 rfl (by rw [hs.size]; decide) rfl).trans r7
            refine g_sub (r := (((rest).length : Nat) : Int) - 1) rfl e18 ((hρ.cst _)) (by omega) (by omega) ?_
            exact hK _ _ (Below.refl _ _) rfl
          · intro xv_ wx ρ hρ hwx hd K hK
            obtain r4 : xv_ 4 = .int .i64 ds[k] := hd 4 rfl
            have e15 : ρ (.tmp 15) = .int .i64 ds[k] := (hρ.out 4 15 rfl (by rw [hs.size]; decide) rfl).trans r4
            obtain r8 : xv_ 8 = .int .i64 ((((rest).length : Nat) : Int) - 1) := hd 8 rfl
            have e19 : ρ (.tmp 19) = .int .i64 ((((rest).length : Nat) : Int) - 1) := (hρ.out 8 19 rfl (by rw [hs.size]; decide) rfl).trans r8
            refine g_call rfl (hρ.fn _) Try.call62 (arr3 e15 (hρ.cst _) e19) ?_
            refine (l01In_any _ _ _ _).mono ?_
            rintro e w' ⟨rfl, rfl⟩
            exact ⟨_, rfl, hK _ _ (Below.refl _ _) (congrArg Value.bool hin)⟩
          · intro xv_ wx ρ hρ hwx hd K hK
            obtain r9 : xv_ 9 = .bool true := hd 9 rfl
            have e20 : ρ (.tmp 20) = .bool true := (hρ.out 9 20 rfl (by rw [hs.size]; decide) rfl).trans r9
            refine g_not rfl e20 ?_
            exact hK _ _ (Below.refl _ _) rfl
          · intro xv_ wx ρ hρ hwx hd K hK
            obtain r10 : xv_ 10 = .bool false := hd 10 rfl
            have e21 : ρ (.tmp 21) = .bool false := (hρ.out 10 21 rfl (by rw [hs.size]; decide) rfl).trans r10
            refine g_move rfl e21 ?_
            exact hK _ _ (Below.refl _ _) rfl
          · intro xv_ wx ρ hρ hwx hd K hK
            have e3 : ρ (.tmp 3) = .int .i64 ((k : Nat) : Int) := (hρ.inn 3 rfl).trans s3
            refine g_move rfl e3 ?_
            exact hK _ _ (Below.refl _ _) rfl
          · intro xv_ wx ρ hρ hwx hd K hK
            obtain r12 : xv_ 12 = .int .i64 ((k : Nat) : Int) := hd 12 rfl
            have e23 : ρ (.tmp 23) = .int .i64 ((k : Nat) : Int) := (hρ.out 12 23 rfl (by rw [hs.size]; decide) rfl).trans r12
            refine g_gtr rfl e23 ((hρ.cst _)) ?_
            exact hK _ _ (Below.refl _ _) (congrArg Value.bool (decide_eq_true hk0))
          · intro xv_ wx ρ hρ hwx hd K hK
            obtain r13 : xv_ 13 = .bool true := hd 13 rfl
            have e24 : ρ (.tmp 24) = .bool true := (hρ.out 13 24 rfl (by rw [hs.size]; decide) rfl).trans r13
            refine g_move rfl e24 ?_
            exact hK _ _ (Below.refl _ _) rfl
          · intro xv_ wx ρ hρ hwx hd K hK
            have e1 : ρ (.tmp 1) = .pointer (some ⟨q2, 0, none⟩) := (hρ.inn 1 rfl).trans s1
            refine g_field (r := 3) rfl e1 Try.underlying28 rfl (fun w => Try.sizeOf26 w) rfl rfl ?_
            exact hK _ _ (Below.refl _ _) rfl
          · intro xv_ wx ρ hρ hwx hd K hK
            obtain r15 : xv_ 15 = .pointer (some ⟨q2, 3, none⟩) := hd 15 rfl
            have e26 : ρ (.tmp 26) = .pointer (some ⟨q2, 3, none⟩) := (hρ.out 15 26 rfl (by rw [hs.size]; decide) rfl).trans r15
            have h_q2 := keep_below h_q2 hwx
            refine g_load rfl e26 Try.isAgg26 (box_cell h_q2 rfl) ?_
            exact hK _ _ (Below.refl _ _) rfl
          · intro xv_ wx ρ hρ hwx hd K hK
            have e3 : ρ (.tmp 3) = .int .i64 ((k : Nat) : Int) := (hρ.inn 3 rfl).trans s3
            refine g_move rfl e3 ?_
            exact hK _ _ (Below.refl _ _) rfl
          · intro xv_ wx ρ hρ hwx hd K hK
            obtain r16 : xv_ 16 = .slice B ds.length dp := hd 16 rfl
            have e27 : ρ (.tmp 27) = .slice B ds.length dp := (hρ.out 16 27 rfl (by rw [hs.size]; decide) rfl).trans r16
            obtain r17 : xv_ 17 = .int .i64 ((k : Nat) : Int) := hd 17 rfl
            have e28 : ρ (.tmp 28) = .int .i64 ((k : Nat) : Int) := (hρ.out 17 28 rfl (by rw [hs.size]; decide) rfl).trans r17
            refine g_index (r := o32 + k * 1) (k := k) rfl (e27.trans (slice_at hA33)) e28 Try.underlying26 (fun w => Try.sizeOf3 w) (by omega) rfl ?_
            exact hK _ _ (Below.refl _ _) rfl
          · intro xv_ wx ρ hρ hwx hd K hK
            obtain r18 : xv_ 18 = .pointer (some ⟨b31, o32 + k * 1, none⟩) := hd 18 rfl
            have e29 : ρ (.tmp 29) = .pointer (some ⟨b31, o32 + k * 1, none⟩) := (hρ.out 18 29 rfl (by rw [hs.size]; decide) rfl).trans r18
            have hc34 := elem_below hc34 hwx hl_hc34
            refine g_load rfl e29 Try.isAgg3 (by first | exact hc34 0 _ (by decide) rfl | (rw [Nat.add_assoc]; exact hc34 0 _ (by decide) rfl)) ?_
            exact hK _ _ (Below.refl _ _) rfl
          · intro xv_ wx ρ hρ hwx hd K hK
            have e1 : ρ (.tmp 1) = .pointer (some ⟨q2, 0, none⟩) := (hρ.inn 1 rfl).trans s1
            refine g_field (r := 3) rfl e1 Try.underlying28 rfl (fun w => Try.sizeOf26 w) rfl rfl ?_
            exact hK _ _ (Below.refl _ _) rfl
          · intro xv_ wx ρ hρ hwx hd K hK
            obtain r20 : xv_ 20 = .pointer (some ⟨q2, 3, none⟩) := hd 20 rfl
            have e31 : ρ (.tmp 31) = .pointer (some ⟨q2, 3, none⟩) := (hρ.out 20 31 rfl (by rw [hs.size]; decide) rfl).trans r20
            have h_q2 := keep_below h_q2 hwx
            refine g_load rfl e31 Try.isAgg26 (box_cell h_q2 rfl) ?_
            exact hK _ _ (Below.refl _ _) rfl
          · intro xv_ wx ρ hρ hwx hd K hK
            have e3 : ρ (.tmp 3) = .int .i64 ((k : Nat) : Int) := (hρ.inn 3 rfl).trans s3
            refine g_move rfl e3 ?_
            exact hK _ _ (Below.refl _ _) rfl
          · intro xv_ wx ρ hρ hwx hd K hK
            obtain r22 : xv_ 22 = .int .i64 ((k : Nat) : Int) := hd 22 rfl
            have e33 : ρ (.tmp 33) = .int .i64 ((k : Nat) : Int) := (hρ.out 22 33 rfl (by rw [hs.size]; decide) rfl).trans r22
            refine g_sub (r := ((k - 1 : Nat) : Int)) rfl e33 ((hρ.cst _)) (by omega) (by omega) ?_
            exact hK _ _ (Below.refl _ _) rfl
          · intro xv_ wx ρ hρ hwx hd K hK
            obtain r21 : xv_ 21 = .slice B ds.length dp := hd 21 rfl
            have e32 : ρ (.tmp 32) = .slice B ds.length dp := (hρ.out 21 32 rfl (by rw [hs.size]; decide) rfl).trans r21
            obtain r23 : xv_ 23 = .int .i64 ((k - 1 : Nat) : Int) := hd 23 rfl
            have e34 : ρ (.tmp 34) = .int .i64 ((k - 1 : Nat) : Int) := (hρ.out 23 34 rfl (by rw [hs.size]; decide) rfl).trans r23
            refine g_index (r := o36 + (k - 1) * 1) (k := k - 1) rfl (e32.trans (slice_at hA37)) e34 Try.underlying26 (fun w => Try.sizeOf3 w) (by omega) rfl ?_
            exact hK _ _ (Below.refl _ _) rfl
          · intro xv_ wx ρ hρ hwx hd K hK
            obtain r24 : xv_ 24 = .pointer (some ⟨b35, o36 + (k - 1) * 1, none⟩) := hd 24 rfl
            have e35 : ρ (.tmp 35) = .pointer (some ⟨b35, o36 + (k - 1) * 1, none⟩) := (hρ.out 24 35 rfl (by rw [hs.size]; decide) rfl).trans r24
            have hc38 := elem_below hc38 hwx hl_hc38
            refine g_load rfl e35 Try.isAgg3 (by first | exact hc38 0 _ (by decide) rfl | (rw [Nat.add_assoc]; exact hc38 0 _ (by decide) rfl)) ?_
            exact hK _ _ (Below.refl _ _) rfl
          · intro xv_ wx ρ hρ hwx hd K hK
            obtain r19 : xv_ 19 = .int .i64 ds[k] := hd 19 rfl
            have e30 : ρ (.tmp 30) = .int .i64 ds[k] := (hρ.out 19 30 rfl (by rw [hs.size]; decide) rfl).trans r19
            obtain r25 : xv_ 25 = .int .i64 ds[k - 1] := hd 25 rfl
            have e36 : ρ (.tmp 36) = .int .i64 ds[k - 1] := (hρ.out 25 36 rfl (by rw [hs.size]; decide) rfl).trans r25
            refine g_leq rfl e30 e36 ?_
            exact hK _ _ (Below.refl _ _) rfl
          · intro xv_ wx ρ hρ hwx hd K hK
            obtain r14 : xv_ 14 = .bool true := hd 14 rfl
            have e25 : ρ (.tmp 25) = .bool true := (hρ.out 14 25 rfl (by rw [hs.size]; decide) rfl).trans r14
            obtain r26 : xv_ 26 = .bool (decide (ds[k] ≤ ds[k - 1])) := hd 26 rfl
            have e37 : ρ (.tmp 37) = .bool (decide (ds[k] ≤ ds[k - 1])) := (hρ.out 26 37 rfl (by rw [hs.size]; decide) rfl).trans r26
            refine g_pick_t rfl e25 e37 ?_
            exact hK _ _ (Below.refl _ _) rfl
          · intro xv_ wx ρ hρ hwx hd K hK
            obtain r11 : xv_ 11 = .bool false := hd 11 rfl
            have e22 : ρ (.tmp 22) = .bool false := (hρ.out 11 22 rfl (by rw [hs.size]; decide) rfl).trans r11
            obtain r27 : xv_ 27 = .bool (decide (ds[k] ≤ ds[k - 1])) := hd 27 rfl
            have e38 : ρ (.tmp 38) = .bool (decide (ds[k] ≤ ds[k - 1])) := (hρ.out 27 38 rfl (by rw [hs.size]; decide) rfl).trans r27
            refine g_pick_f rfl e22 e38 ?_
            exact hK _ _ (Below.refl _ _) rfl
        · intro x0_ w39 hb_w39 hr0
          obtain r0 : x0_ 0 = .pointer (some ⟨q2, 3, none⟩) := hr0 0 (by decide) rfl rfl
          obtain r1 : x0_ 1 = .slice B ds.length dp := hr0 1 (by decide) rfl rfl
          obtain r2 : x0_ 2 = .int .i64 ((k : Nat) : Int) := hr0 2 (by decide) rfl rfl
          obtain r3 : x0_ 3 = .pointer (some ⟨b27, o28 + k * 1, none⟩) := hr0 3 (by decide) rfl rfl
          obtain r4 : x0_ 4 = .int .i64 ds[k] := hr0 4 (by decide) rfl rfl
          obtain r5 : x0_ 5 = .pointer (some ⟨q2, 2, none⟩) := hr0 5 (by decide) rfl rfl
          obtain r6 : x0_ 6 = .string ⟨(rest).toArray⟩ := hr0 6 (by decide) rfl rfl
          obtain r7 : x0_ 7 = .int .i64 (((rest).length : Nat) : Int) := hr0 7 (by decide) rfl rfl
          obtain r8 : x0_ 8 = .int .i64 ((((rest).length : Nat) : Int) - 1) := hr0 8 (by decide) rfl rfl
          obtain r9 : x0_ 9 = .bool true := hr0 9 (by decide) rfl rfl
          obtain r10 : x0_ 10 = .bool false := hr0 10 (by decide) rfl rfl
          obtain r11 : x0_ 11 = .bool false := hr0 11 (by decide) rfl rfl
          obtain r12 : x0_ 12 = .int .i64 ((k : Nat) : Int) := hr0 12 (by decide) rfl rfl
          obtain r13 : x0_ 13 = .bool true := hr0 13 (by decide) rfl rfl
          obtain r14 : x0_ 14 = .bool true := hr0 14 (by decide) rfl rfl
          obtain r15 : x0_ 15 = .pointer (some ⟨q2, 3, none⟩) := hr0 15 (by decide) rfl rfl
          obtain r16 : x0_ 16 = .slice B ds.length dp := hr0 16 (by decide) rfl rfl
          obtain r17 : x0_ 17 = .int .i64 ((k : Nat) : Int) := hr0 17 (by decide) rfl rfl
          obtain r18 : x0_ 18 = .pointer (some ⟨b31, o32 + k * 1, none⟩) := hr0 18 (by decide) rfl rfl
          obtain r19 : x0_ 19 = .int .i64 ds[k] := hr0 19 (by decide) rfl rfl
          obtain r20 : x0_ 20 = .pointer (some ⟨q2, 3, none⟩) := hr0 20 (by decide) rfl rfl
          obtain r21 : x0_ 21 = .slice B ds.length dp := hr0 21 (by decide) rfl rfl
          obtain r22 : x0_ 22 = .int .i64 ((k : Nat) : Int) := hr0 22 (by decide) rfl rfl
          obtain r23 : x0_ 23 = .int .i64 ((k - 1 : Nat) : Int) := hr0 23 (by decide) rfl rfl
          obtain r24 : x0_ 24 = .pointer (some ⟨b35, o36 + (k - 1) * 1, none⟩) := hr0 24 (by decide) rfl rfl
          obtain r25 : x0_ 25 = .int .i64 ds[k - 1] := hr0 25 (by decide) rfl rfl
          obtain r26 : x0_ 26 = .bool (decide (ds[k] ≤ ds[k - 1])) := hr0 26 (by decide) rfl rfl
          obtain r27 : x0_ 27 = .bool (decide (ds[k] ≤ ds[k - 1])) := hr0 27 (by decide) rfl rfl
          obtain r28 : x0_ 28 = .bool (decide (ds[k] ≤ ds[k - 1])) := hr0 28 (by decide) rfl rfl
          clear hr0
          replace h_q2 := keep_below h_q2 hb_w39
          replace hB := hB.trans (hb_w39.mono hB.size)
          clear hb_w39
          intro xv_ a10 hρ hsz hdf qx_ ql_ qk_ qlk_
          replace s1 : a10.eval (.tmp 1) = .pointer (some ⟨q2, 0, none⟩) := (hρ.inn 1 rfl).trans s1
          replace s2 : a10.eval (.tmp 2) = .bool false := (hρ.inn 2 rfl).trans s2
          replace s3 : a10.eval (.tmp 3) = .int .i64 ((k : Nat) : Int) := (hρ.inn 3 rfl).trans s3
          replace s8 : a10.eval (.tmp 8) = .bool true := (hρ.inn 8 rfl).trans s8
          have s39 : a10.eval (.tmp 39) = .bool (decide (ds[k] ≤ ds[k - 1])) := (hρ.out 28 39 rfl (by rw [hs.size]; decide)).trans ((qx_ 28 (by decide) rfl rfl).trans r28)
          replace hs : St 54 a10 := ⟨hsz.trans hs.size, hdf.trans hs.nodef⟩
          clear hρ hsz hdf qx_ ql_ qk_ qlk_
          refine hK12 _ _ ?_
          clear hK12
          by_cases hle : ds[k] ≤ ds[k - 1]
          · replace s39 := s39.trans (congrArg Value.bool (decide_eq_true hle))
            replace s39 : a10.eval (.tmp 39) = .bool true := s39
            refine c_true s39 ?_
            refine wp_seq_k fun K40 hK40 => ?_
            refine wp_region_lit ?_
            refine q_val rfl rfl ?_
            refine g_assign rfl rfl ?_
            intro a11 p11
            have s2 : a11.eval (.tmp 2) = .bool false := p11.at hs (by decide)
            replace hs := p11.st hs
            refine wpList_nil ?_
            replace s1 : a11.eval (.tmp 1) = .pointer (some ⟨q2, 0, none⟩) := (p11.ne rfl).trans s1
            replace s3 : a11.eval (.tmp 3) = .int .i64 ((k : Nat) : Int) := (p11.ne rfl).trans s3
            replace s8 : a11.eval (.tmp 8) = .bool true := (p11.ne rfl).trans s8
            replace s39 : a11.eval (.tmp 39) = .bool true := (p11.ne rfl).trans s39
            refine hK40 _ _ ?_
            clear hK40
            refine wp_ret ?_
            try dsimp only [Exit.then, Exit.inBlock]
            refine ret1 hs Try.results40 (res_tmp s2) ?_
            exact ⟨by unfold pkrOk; rw [stTo_fail hlt (stAt_bad hlt (by omega) hk0 hle)]; simp, hB⟩
          · replace s39 := s39.trans (congrArg Value.bool (decide_eq_false hle))
            replace s39 : a10.eval (.tmp 39) = .bool false := s39
            refine c_false s39 ?_
            refine wp_skip ?_
            refine hK11 _ _ ?_
            clear hK11
            refine wp_region_lit ?_
            refine q_val rfl rfl ?_
            refine g_move rfl s3 ?_
            intro a11 p11
            have s9 : a11.eval (.tmp 9) = .int .i64 ((k : Nat) : Int) := p11.at hs (by decide)
            replace hs := p11.st hs
            refine q_val rfl rfl ?_
            refine g_add (r := ((k + 1 : Nat) : Int)) rfl s9 rfl (by omega) (by omega) ?_
            intro a12 p12
            have s10 : a12.eval (.tmp 10) = .int .i64 ((k + 1 : Nat) : Int) := p12.at hs (by decide)
            replace hs := p12.st hs
            refine q_val rfl rfl ?_
            refine g_assign rfl s10 ?_
            intro a13 p13
            have s3 : a13.eval (.tmp 3) = .int .i64 ((k + 1 : Nat) : Int) := p13.at hs (by decide)
            replace hs := p13.st hs
            refine wpList_nil ?_
            replace s1 : a13.eval (.tmp 1) = .pointer (some ⟨q2, 0, none⟩) := ((p13.ne rfl).trans ((p12.ne rfl).trans (p11.ne rfl))).trans s1
            replace s2 : a13.eval (.tmp 2) = .bool false := ((p13.ne rfl).trans ((p12.ne rfl).trans (p11.ne rfl))).trans s2
            replace s8 : a13.eval (.tmp 8) = .bool true := ((p13.ne rfl).trans ((p12.ne rfl).trans (p11.ne rfl))).trans s8
            replace s39 : a13.eval (.tmp 39) = .bool false := ((p13.ne rfl).trans ((p12.ne rfl).trans (p11.ne rfl))).trans s39
            refine show _ ∧ _ from ⟨⟨k + 1, hs, s1, s2, s3, hB, h_q2, by omega, (stTo_step hst (stAt_next hlt (by omega) hin hle))⟩, ?_⟩
            show ds.length - (intOf (a13.eval (.tmp 3))).toNat < ds.length - (intOf (a4.eval (.tmp 3))).toNat
            rw [s3, mu0]
            simp only [intOf]
            omega
      · have hlt : k < ds.length := by omega
        obtain ⟨b41, o42, hA43, hl_hc44, hc44⟩ := Rd.get cI_len (hr_d.below hB) rfl (i := k) (by omega)
        refine wp_drawn (n := 54) [] [] [] (fun k_ v_ _wx => match k_ with | 0 => v_ = .pointer (some ⟨q2, 3, none⟩) | 1 => v_ = .slice B ds.length dp | 2 => v_ = .int .i64 ((k : Nat) : Int) | 3 => v_ = .pointer (some ⟨b41, o42 + k * 1, none⟩) | 4 => v_ = .int .i64 ds[k] | 5 => v_ = .pointer (some ⟨q2, 2, none⟩) | 6 => v_ = .string ⟨(rest).toArray⟩ | 7 => v_ = .int .i64 (((rest).length : Nat) : Int) | 8 => v_ = .int .i64 ((((rest).length : Nat) : Int) - 1) | 9 => v_ = .bool true | 10 => v_ = .bool false | 11 => v_ = .bool false | 12 => v_ = .int .i64 ((k : Nat) : Int) | 13 => v_ = .bool false | 14 => v_ = .bool false | 27 => v_ = .bool false | 28 => v_ = .bool false | _ => True) (by kernel_rfl) (by kernel_rfl) (by kernel_rfl) (by kernel_rfl) hs.size ?_ ?_ ?_
        · intro i v wa wb hb hr
          rcases i with _ | _ | _ | _ | _ | _ | _ | _ | _ | _ | _ | _ | _ | _ | _ | _ | _ | _ | _ | _ | _ | _ | _ | _ | _ | _ | _ | _ | _ | i
          · exact hr
          · exact hr
          · exact hr
          · exact hr
          · exact hr
          · exact hr
          · exact hr
          · exact hr
          · exact hr
          · exact hr
          · exact hr
          · exact hr
          · exact hr
          · exact hr
          · exact hr
          · trivial
          · trivial
          · trivial
          · trivial
          · trivial
          · trivial
          · trivial
          · trivial
          · trivial
          · trivial
          · trivial
          · trivial
          · exact hr
          · exact hr
          · trivial
        · refine d_step rfl rfl ?_ (d_step rfl rfl ?_ (d_step rfl rfl ?_ (d_step rfl rfl ?_ (d_step rfl rfl ?_ (d_step rfl rfl ?_ (d_step rfl rfl ?_ (d_step rfl rfl ?_ (d_step rfl rfl ?_ (d_step rfl rfl ?_ (d_step rfl rfl ?_ (d_step rfl rfl ?_ (d_take rfl 11 false 22 rfl rfl rfl (fun v w h => h) ?_ (d_take rfl 11 false 22 rfl rfl rfl (fun v w h => h) ?_ (d_take rfl 11 false 22 rfl rfl rfl (fun v w h => h) ?_ (d_skip 14 true 25 rfl rfl rfl (fun v w h => Or.inl h) (fun w => trivial) (d_skip 14 true 25 rfl rfl rfl (fun v w h => Or.inl h) (fun w => trivial) (d_skip 14 true 25 rfl rfl rfl (fun v w h => Or.inl h) (fun w => trivial) (d_skip 14 true 25 rfl rfl rfl (fun v w h => Or.inl h) (fun w => trivial) (d_skip 14 true 25 rfl rfl rfl (fun v w h => Or.inl h) (fun w => trivial) (d_skip 14 true 25 rfl rfl rfl (fun v w h => Or.inl h) (fun w => trivial) (d_skip 14 true 25 rfl rfl rfl (fun v w h => Or.inl h) (fun w => trivial) (d_skip 14 true 25 rfl rfl rfl (fun v w h => Or.inl h) (fun w => trivial) (d_skip 14 true 25 rfl rfl rfl (fun v w h => Or.inl h) (fun w => trivial) (d_skip 14 true 25 rfl rfl rfl (fun v w h => Or.inl h) (fun w => trivial) (d_skip 14 true 25 rfl rfl rfl (fun v w h => Or.inl h) (fun w => trivial) (d_skip 14 true 25 rfl rfl rfl (fun v w h => Or.inl h) (fun w => trivial) (d_take rfl 11 false 22 rfl rfl rfl (fun v w h => h) ?_ (d_step rfl rfl ?_ (d_nil)))))))))))))))))))))))))))))
          · intro xv_ wx ρ hρ hwx hd K hK
            have e1 : ρ (.tmp 1) = .pointer (some ⟨q2, 0, none⟩) := (hρ.inn 1 rfl).trans s1
            refine g_field (r := 3) rfl e1 Try.underlying28 rfl (fun w => Try.sizeOf26 w) rfl rfl ?_
            exact hK _ _ (Below.refl _ _) rfl
          · intro xv_ wx ρ hρ hwx hd K hK
            obtain r0 : xv_ 0 = .pointer (some ⟨q2, 3, none⟩) := hd 0 rfl
            have e11 : ρ (.tmp 11) = .pointer (some ⟨q2, 3, none⟩) := (hρ.out 0 11 rfl (by rw [hs.size]; decide) rfl).trans r0
            have h_q2 := keep_below h_q2 hwx
            refine g_load rfl e11 Try.isAgg26 (box_cell h_q2 rfl) ?_
            exact hK _ _ (Below.refl _ _) rfl
          · intro xv_ wx ρ hρ hwx hd K hK
            have e3 : ρ (.tmp 3) = .int .i64 ((k : Nat) : Int) := (hρ.inn 3 rfl).trans s3
            refine g_move rfl e3 ?_
            exact hK _ _ (Below.refl _ _) rfl
          · intro xv_ wx ρ hρ hwx hd K hK
            obtain r1 : xv_ 1 = .slice B ds.length dp := hd 1 rfl
            have e12 : ρ (.tmp 12) = .slice B ds.length dp := (hρ.out 1 12 rfl (by rw [hs.size]; decide) rfl).trans r1
            obtain r2 : xv_ 2 = .int .i64 ((k : Nat) : Int) := hd 2 rfl
            have e13 : ρ (.tmp 13) = .int .i64 ((k : Nat) : Int) := (hρ.out 2 13 rfl (by rw [hs.size]; decide) rfl).trans r2
            refine g_index (r := o42 + k * 1) (k := k) rfl (e12.trans (slice_at hA43)) e13 Try.underlying26 (fun w => Try.sizeOf3 w) (by omega) rfl ?_
            exact hK _ _ (Below.refl _ _) rfl
          · intro xv_ wx ρ hρ hwx hd K hK
            obtain r3 : xv_ 3 = .pointer (some ⟨b41, o42 + k * 1, none⟩) := hd 3 rfl
            have e14 : ρ (.tmp 14) = .pointer (some ⟨b41, o42 + k * 1, none⟩) := (hρ.out 3 14 rfl (by rw [hs.size]; decide) rfl).trans r3
            have hc44 := elem_below hc44 hwx hl_hc44
            refine g_load rfl e14 Try.isAgg3 (by first | exact hc44 0 _ (by decide) rfl | (rw [Nat.add_assoc]; exact hc44 0 _ (by decide) rfl)) ?_
            exact hK _ _ (Below.refl _ _) rfl
          · intro xv_ wx ρ hρ hwx hd K hK
            have e1 : ρ (.tmp 1) = .pointer (some ⟨q2, 0, none⟩) := (hρ.inn 1 rfl).trans s1
            refine g_field (r := 2) rfl e1 Try.underlying28 rfl (fun w => Try.sizeOf9 w) rfl rfl ?_
            exact hK _ _ (Below.refl _ _) rfl
          · intro xv_ wx ρ hρ hwx hd K hK
            obtain r5 : xv_ 5 = .pointer (some ⟨q2, 2, none⟩) := hd 5 rfl
            have e16 : ρ (.tmp 16) = .pointer (some ⟨q2, 2, none⟩) := (hρ.out 5 16 rfl (by rw [hs.size]; decide) rfl).trans r5
            have h_q2 := keep_below h_q2 hwx
            refine g_load rfl e16 Try.isAgg9 (box_cell h_q2 rfl) ?_
            exact hK _ _ (Below.refl _ _) rfl
          · intro xv_ wx ρ hρ hwx hd K hK
            obtain r6 : xv_ 6 = .string ⟨(rest).toArray⟩ := hd 6 rfl
            have e17 : ρ (.tmp 17) = .string ⟨(rest).toArray⟩ := (hρ.out 6 17 rfl (by rw [hs.size]; decide) rfl).trans r6
            refine g_lenS rfl Try.underlying9 e17 ?_
            exact hK _ _ (Below.refl _ _) rfl
          · intro xv_ wx ρ hρ hwx hd K hK
            obtain r7 : xv_ 7 = .int .i64 (((rest).length : Nat) : Int) := hd 7 rfl
            have e18 : ρ (.tmp 18) = .int .i64 (((rest).length : Nat) : Int) := (hρ.out 7 18 rfl (by rw [hs.size]; decide) rfl).trans r7
            refine g_sub (r := (((rest).length : Nat) : Int) - 1) rfl e18 ((hρ.cst _)) (by omega) (by omega) ?_
            exact hK _ _ (Below.refl _ _) rfl
          · intro xv_ wx ρ hρ hwx hd K hK
            obtain r4 : xv_ 4 = .int .i64 ds[k] := hd 4 rfl
            have e15 : ρ (.tmp 15) = .int .i64 ds[k] := (hρ.out 4 15 rfl (by rw [hs.size]; decide) rfl).trans r4
            obtain r8 : xv_ 8 = .int .i64 ((((rest).length : Nat) : Int) - 1) := hd 8 rfl
            have e19 : ρ (.tmp 19) = .int .i64 ((((rest).length : Nat) : Int) - 1) := (hρ.out 8 19 rfl (by rw [hs.size]; decide) rfl).trans r8
            refine g_call rfl (hρ.fn _) Try.call62 (arr3 e15 (hρ.cst _) e19) ?_
            refine (l01In_any _ _ _ _).mono ?_
            rintro e w' ⟨rfl, rfl⟩
            exact ⟨_, rfl, hK _ _ (Below.refl _ _) (congrArg Value.bool hin)⟩
          · intro xv_ wx ρ hρ hwx hd K hK
            obtain r9 : xv_ 9 = .bool true := hd 9 rfl
            have e20 : ρ (.tmp 20) = .bool true := (hρ.out 9 20 rfl (by rw [hs.size]; decide) rfl).trans r9
            refine g_not rfl e20 ?_
            exact hK _ _ (Below.refl _ _) rfl
          · intro xv_ wx ρ hρ hwx hd K hK
            obtain r10 : xv_ 10 = .bool false := hd 10 rfl
            have e21 : ρ (.tmp 21) = .bool false := (hρ.out 10 21 rfl (by rw [hs.size]; decide) rfl).trans r10
            refine g_move rfl e21 ?_
            exact hK _ _ (Below.refl _ _) rfl
          · intro xv_ wx ρ hρ hwx hd K hK
            have e3 : ρ (.tmp 3) = .int .i64 ((k : Nat) : Int) := (hρ.inn 3 rfl).trans s3
            refine g_move rfl e3 ?_
            exact hK _ _ (Below.refl _ _) rfl
          · intro xv_ wx ρ hρ hwx hd K hK
            obtain r12 : xv_ 12 = .int .i64 ((k : Nat) : Int) := hd 12 rfl
            have e23 : ρ (.tmp 23) = .int .i64 ((k : Nat) : Int) := (hρ.out 12 23 rfl (by rw [hs.size]; decide) rfl).trans r12
            refine g_gtr rfl e23 ((hρ.cst _)) ?_
            exact hK _ _ (Below.refl _ _) (congrArg Value.bool (decide_eq_false hk0))
          · intro xv_ wx ρ hρ hwx hd K hK
            obtain r13 : xv_ 13 = .bool false := hd 13 rfl
            have e24 : ρ (.tmp 24) = .bool false := (hρ.out 13 24 rfl (by rw [hs.size]; decide) rfl).trans r13
            refine g_move rfl e24 ?_
            exact hK _ _ (Below.refl _ _) rfl
          · intro xv_ wx ρ hρ hwx hd K hK
            obtain r14 : xv_ 14 = .bool false := hd 14 rfl
            have e25 : ρ (.tmp 25) = .bool false := (hρ.out 14 25 rfl (by rw [hs.size]; decide) rfl).trans r14
            refine g_pick_f rfl e25 ((hρ.cst _)) ?_
            exact hK _ _ (Below.refl _ _) rfl
          · intro xv_ wx ρ hρ hwx hd K hK
            obtain r11 : xv_ 11 = .bool false := hd 11 rfl
            have e22 : ρ (.tmp 22) = .bool false := (hρ.out 11 22 rfl (by rw [hs.size]; decide) rfl).trans r11
            obtain r27 : xv_ 27 = .bool false := hd 27 rfl
            have e38 : ρ (.tmp 38) = .bool false := (hρ.out 27 38 rfl (by rw [hs.size]; decide) rfl).trans r27
            refine g_pick_f rfl e22 e38 ?_
            exact hK _ _ (Below.refl _ _) rfl
        · intro x0_ w45 hb_w45 hr0
          obtain r0 : x0_ 0 = .pointer (some ⟨q2, 3, none⟩) := hr0 0 (by decide) rfl rfl
          obtain r1 : x0_ 1 = .slice B ds.length dp := hr0 1 (by decide) rfl rfl
          obtain r2 : x0_ 2 = .int .i64 ((k : Nat) : Int) := hr0 2 (by decide) rfl rfl
          obtain r3 : x0_ 3 = .pointer (some ⟨b41, o42 + k * 1, none⟩) := hr0 3 (by decide) rfl rfl
          obtain r4 : x0_ 4 = .int .i64 ds[k] := hr0 4 (by decide) rfl rfl
          obtain r5 : x0_ 5 = .pointer (some ⟨q2, 2, none⟩) := hr0 5 (by decide) rfl rfl
          obtain r6 : x0_ 6 = .string ⟨(rest).toArray⟩ := hr0 6 (by decide) rfl rfl
          obtain r7 : x0_ 7 = .int .i64 (((rest).length : Nat) : Int) := hr0 7 (by decide) rfl rfl
          obtain r8 : x0_ 8 = .int .i64 ((((rest).length : Nat) : Int) - 1) := hr0 8 (by decide) rfl rfl
          obtain r9 : x0_ 9 = .bool true := hr0 9 (by decide) rfl rfl
          obtain r10 : x0_ 10 = .bool false := hr0 10 (by decide) rfl rfl
          obtain r11 : x0_ 11 = .bool false := hr0 11 (by decide) rfl rfl
          obtain r12 : x0_ 12 = .int .i64 ((k : Nat) : Int) := hr0 12 (by decide) rfl rfl
          obtain r13 : x0_ 13 = .bool false := hr0 13 (by decide) rfl rfl
          obtain r14 : x0_ 14 = .bool false := hr0 14 (by decide) rfl rfl
          obtain r27 : x0_ 27 = .bool false := hr0 27 (by decide) rfl rfl
          obtain r28 : x0_ 28 = .bool false := hr0 28 (by decide) rfl rfl
          clear hr0
          replace h_q2 := keep_below h_q2 hb_w45
          replace hB := hB.trans (hb_w45.mono hB.size)
          clear hb_w45
          intro xv_ a10 hρ hsz hdf qx_ ql_ qk_ qlk_
          replace s1 : a10.eval (.tmp 1) = .pointer (some ⟨q2, 0, none⟩) := (hρ.inn 1 rfl).trans s1
          replace s2 : a10.eval (.tmp 2) = .bool false := (hρ.inn 2 rfl).trans s2
          replace s3 : a10.eval (.tmp 3) = .int .i64 ((k : Nat) : Int) := (hρ.inn 3 rfl).trans s3
          replace s8 : a10.eval (.tmp 8) = .bool true := (hρ.inn 8 rfl).trans s8
          have s39 : a10.eval (.tmp 39) = .bool false := (hρ.out 28 39 rfl (by rw [hs.size]; decide)).trans ((qx_ 28 (by decide) rfl rfl).trans r28)
          replace hs : St 54 a10 := ⟨hsz.trans hs.size, hdf.trans hs.nodef⟩
          clear hρ hsz hdf qx_ ql_ qk_ qlk_
          refine hK12 _ _ ?_
          clear hK12
          refine c_false s39 ?_
          refine wp_skip ?_
          refine hK11 _ _ ?_
          clear hK11
          refine wp_region_lit ?_
          refine q_val rfl rfl ?_
          refine g_move rfl s3 ?_
          intro a11 p11
          have s9 : a11.eval (.tmp 9) = .int .i64 ((k : Nat) : Int) := p11.at hs (by decide)
          replace hs := p11.st hs
          refine q_val rfl rfl ?_
          refine g_add (r := ((k + 1 : Nat) : Int)) rfl s9 rfl (by omega) (by omega) ?_
          intro a12 p12
          have s10 : a12.eval (.tmp 10) = .int .i64 ((k + 1 : Nat) : Int) := p12.at hs (by decide)
          replace hs := p12.st hs
          refine q_val rfl rfl ?_
          refine g_assign rfl s10 ?_
          intro a13 p13
          have s3 : a13.eval (.tmp 3) = .int .i64 ((k + 1 : Nat) : Int) := p13.at hs (by decide)
          replace hs := p13.st hs
          refine wpList_nil ?_
          replace s1 : a13.eval (.tmp 1) = .pointer (some ⟨q2, 0, none⟩) := ((p13.ne rfl).trans ((p12.ne rfl).trans (p11.ne rfl))).trans s1
          replace s2 : a13.eval (.tmp 2) = .bool false := ((p13.ne rfl).trans ((p12.ne rfl).trans (p11.ne rfl))).trans s2
          replace s8 : a13.eval (.tmp 8) = .bool true := ((p13.ne rfl).trans ((p12.ne rfl).trans (p11.ne rfl))).trans s8
          replace s39 : a13.eval (.tmp 39) = .bool false := ((p13.ne rfl).trans ((p12.ne rfl).trans (p11.ne rfl))).trans s39
          refine show _ ∧ _ from ⟨⟨k + 1, hs, s1, s2, s3, hB, h_q2, by omega, (stTo_step hst (stAt_first hlt hin hk0))⟩, ?_⟩
          show ds.length - (intOf (a13.eval (.tmp 3))).toNat < ds.length - (intOf (a4.eval (.tmp 3))).toNat
          rw [s3, mu0]
          simp only [intOf]
          omega
  · replace s8 := s8.trans (congrArg Value.bool (decide_eq_false hc10))
    replace s8 : a9.eval (.tmp 8) = .bool false := s8
    refine c_false s8 ?_
    refine wp_exit ?_
    refine hK4 _ _ ?_
    clear hK4
    refine wp_seq_k fun K46 hK46 => ?_
    have hkz : k = ds.length := by omega
    subst hkz
    refine wp_region_lit ?_
    refine q_val rfl rfl ?_
    refine g_field (r := 0) rfl s1 Try.underlying28 rfl (fun w => Try.sizeOf3 w) rfl rfl ?_
    intro a10 p10
    have s40 : a10.eval (.tmp 40) = .pointer (some ⟨q2, 0, none⟩) := p10.at hs (by decide)
    replace hs := p10.st hs
    refine q_val rfl rfl ?_
    refine g_load rfl s40 Try.isAgg3 (box_cell h_q2 rfl) ?_
    intro a11 p11
    have s41 : a11.eval (.tmp 41) = .int .i64 ch := p11.at hs (by decide)
    replace hs := p11.st hs
    refine q_val rfl rfl ?_
    refine g_call rfl rfl Try.call62 (arr3 s41 rfl rfl) ?_
    refine (l01In_any _ _ _ _).mono ?_
    rintro e w' ⟨rfl, rfl⟩
    refine ⟨_, rfl, ?_⟩
    intro a12 p12
    have s42 : a12.eval (.tmp 42) = .bool (inB ch 0 2) := p12.at hs (by decide)
    replace hs := p12.st hs
    refine q_val rfl rfl ?_
    refine g_move rfl s42 ?_
    intro a13 p13
    have s43 : a13.eval (.tmp 43) = .bool (inB ch 0 2) := p13.at hs (by decide)
    replace hs := p13.st hs
    cases h1 : inB ch 0 2
    · replace s42 := s42.trans (congrArg Value.bool h1)
      replace s42 : a12.eval (.tmp 42) = .bool false := s42
      replace s43 := s43.trans (congrArg Value.bool h1)
      replace s43 : a13.eval (.tmp 43) = .bool false := s43
      refine q_skip rfl rfl s43 rfl ?_
      intro a14 p14
      have s44 : a14.eval (.tmp 44) = undef := p14.at hs (by decide)
      replace hs := p14.st hs
      refine q_skip rfl rfl ((p14.ne rfl).trans s43) rfl ?_
      intro a15 p15
      have s45 : a15.eval (.tmp 45) = undef := p15.at hs (by decide)
      replace hs := p15.st hs
      refine q_skip rfl rfl (((p15.ne rfl).trans (p14.ne rfl)).trans s43) rfl ?_
      intro a16 p16
      have s46 : a16.eval (.tmp 46) = undef := p16.at hs (by decide)
      replace hs := p16.st hs
      refine q_val rfl rfl ?_
      refine g_pick_f rfl (((p16.ne rfl).trans ((p15.ne rfl).trans (p14.ne rfl))).trans s43) rfl ?_
      intro a17 p17
      have s47 : a17.eval (.tmp 47) = .bool false := p17.at hs (by decide)
      replace hs := p17.st hs
      refine q_val rfl rfl ?_
      refine g_move rfl s47 ?_
      intro a18 p18
      have s48 : a18.eval (.tmp 48) = .bool false := p18.at hs (by decide)
      replace hs := p18.st hs
      refine q_skip rfl rfl s48 rfl ?_
      intro a19 p19
      have s49 : a19.eval (.tmp 49) = undef := p19.at hs (by decide)
      replace hs := p19.st hs
      refine q_skip rfl rfl ((p19.ne rfl).trans s48) rfl ?_
      intro a20 p20
      have s50 : a20.eval (.tmp 50) = undef := p20.at hs (by decide)
      replace hs := p20.st hs
      refine q_skip rfl rfl (((p20.ne rfl).trans (p19.ne rfl)).trans s48) rfl ?_
      intro a21 p21
      have s51 : a21.eval (.tmp 51) = undef := p21.at hs (by decide)
      replace hs := p21.st hs
      refine q_skip rfl rfl (((p21.ne rfl).trans ((p20.ne rfl).trans (p19.ne rfl))).trans s48) rfl ?_
      intro a22 p22
      have s52 : a22.eval (.tmp 52) = undef := p22.at hs (by decide)
      replace hs := p22.st hs
      refine q_val rfl rfl ?_
      refine g_pick_f rfl (((p22.ne rfl).trans ((p21.ne rfl).trans ((p20.ne rfl).trans (p19.ne rfl)))).trans s48) rfl ?_
      intro a23 p23
      have s53 : a23.eval (.tmp 53) = .bool false := p23.at hs (by decide)
      replace hs := p23.st hs
      refine q_val rfl rfl ?_
      refine g_assign rfl s53 ?_
      intro a24 p24
      have s2 : a24.eval (.tmp 2) = .bool false := p24.at hs (by decide)
      replace hs := p24.st hs
      refine wpList_nil ?_
      refine hK46 _ _ ?_
      clear hK46
      refine wp_ret ?_
      try dsimp only [Exit.then, Exit.inBlock]
      refine ret1 hs Try.results40 (res_tmp s2) ?_
      exact ⟨by unfold pkrOk; rw [hst]; simp [h1], hB⟩
    · replace s42 := s42.trans (congrArg Value.bool h1)
      replace s42 : a12.eval (.tmp 42) = .bool true := s42
      replace s43 := s43.trans (congrArg Value.bool h1)
      replace s43 : a13.eval (.tmp 43) = .bool true := s43
      refine q_take rfl rfl s43 rfl ?_
      refine g_field (r := 1) rfl (((p13.ne rfl).trans ((p12.ne rfl).trans ((p11.ne rfl).trans (p10.ne rfl)))).trans s1) Try.underlying28 rfl (fun w => Try.sizeOf3 w) rfl rfl ?_
      intro a14 p14
      have s44 : a14.eval (.tmp 44) = .pointer (some ⟨q2, 1, none⟩) := p14.at hs (by decide)
      replace hs := p14.st hs
      refine q_take rfl rfl ((p14.ne rfl).trans s43) rfl ?_
      refine g_load rfl s44 Try.isAgg3 (box_cell h_q2 rfl) ?_
      intro a15 p15
      have s45 : a15.eval (.tmp 45) = .int .i64 ct := p15.at hs (by decide)
      replace hs := p15.st hs
      refine q_take rfl rfl (((p15.ne rfl).trans (p14.ne rfl)).trans s43) rfl ?_
      refine g_call rfl rfl Try.call62 (arr3 s45 rfl rfl) ?_
      refine (l01In_any _ _ _ _).mono ?_
      rintro e w' ⟨rfl, rfl⟩
      refine ⟨_, rfl, ?_⟩
      intro a16 p16
      have s46 : a16.eval (.tmp 46) = .bool (inB ct 0 255) := p16.at hs (by decide)
      replace hs := p16.st hs
      refine q_val rfl rfl ?_
      refine g_pick_t rfl (((p16.ne rfl).trans ((p15.ne rfl).trans (p14.ne rfl))).trans s43) s46 ?_
      intro a17 p17
      have s47 : a17.eval (.tmp 47) = .bool (inB ct 0 255) := p17.at hs (by decide)
      replace hs := p17.st hs
      refine q_val rfl rfl ?_
      refine g_move rfl s47 ?_
      intro a18 p18
      have s48 : a18.eval (.tmp 48) = .bool (inB ct 0 255) := p18.at hs (by decide)
      replace hs := p18.st hs
      cases h2 : inB ct 0 255
      · replace s46 := s46.trans (congrArg Value.bool h2)
        replace s46 : a16.eval (.tmp 46) = .bool false := s46
        replace s47 := s47.trans (congrArg Value.bool h2)
        replace s47 : a17.eval (.tmp 47) = .bool false := s47
        replace s48 := s48.trans (congrArg Value.bool h2)
        replace s48 : a18.eval (.tmp 48) = .bool false := s48
        refine q_skip rfl rfl s48 rfl ?_
        intro a19 p19
        have s49 : a19.eval (.tmp 49) = undef := p19.at hs (by decide)
        replace hs := p19.st hs
        refine q_skip rfl rfl ((p19.ne rfl).trans s48) rfl ?_
        intro a20 p20
        have s50 : a20.eval (.tmp 50) = undef := p20.at hs (by decide)
        replace hs := p20.st hs
        refine q_skip rfl rfl (((p20.ne rfl).trans (p19.ne rfl)).trans s48) rfl ?_
        intro a21 p21
        have s51 : a21.eval (.tmp 51) = undef := p21.at hs (by decide)
        replace hs := p21.st hs
        refine q_skip rfl rfl (((p21.ne rfl).trans ((p20.ne rfl).trans (p19.ne rfl))).trans s48) rfl ?_
        intro a22 p22
        have s52 : a22.eval (.tmp 52) = undef := p22.at hs (by decide)
        replace hs := p22.st hs
        refine q_val rfl rfl ?_
        refine g_pick_f rfl (((p22.ne rfl).trans ((p21.ne rfl).trans ((p20.ne rfl).trans (p19.ne rfl)))).trans s48) rfl ?_
        intro a23 p23
        have s53 : a23.eval (.tmp 53) = .bool false := p23.at hs (by decide)
        replace hs := p23.st hs
        refine q_val rfl rfl ?_
        refine g_assign rfl s53 ?_
        intro a24 p24
        have s2 : a24.eval (.tmp 2) = .bool false := p24.at hs (by decide)
        replace hs := p24.st hs
        refine wpList_nil ?_
        refine hK46 _ _ ?_
        clear hK46
        refine wp_ret ?_
        try dsimp only [Exit.then, Exit.inBlock]
        refine ret1 hs Try.results40 (res_tmp s2) ?_
        exact ⟨by unfold pkrOk; rw [hst]; simp [h1, h2], hB⟩
      · replace s46 := s46.trans (congrArg Value.bool h2)
        replace s46 : a16.eval (.tmp 46) = .bool true := s46
        replace s47 := s47.trans (congrArg Value.bool h2)
        replace s47 : a17.eval (.tmp 47) = .bool true := s47
        replace s48 := s48.trans (congrArg Value.bool h2)
        replace s48 : a18.eval (.tmp 48) = .bool true := s48
        refine q_take rfl rfl s48 rfl ?_
        refine g_field (r := 2) rfl (((p18.ne rfl).trans ((p17.ne rfl).trans ((p16.ne rfl).trans ((p15.ne rfl).trans ((p14.ne rfl).trans ((p13.ne rfl).trans ((p12.ne rfl).trans ((p11.ne rfl).trans (p10.ne rfl))))))))).trans s1) Try.underlying28 rfl (fun w => Try.sizeOf9 w) rfl rfl ?_
        intro a19 p19
        have s49 : a19.eval (.tmp 49) = .pointer (some ⟨q2, 2, none⟩) := p19.at hs (by decide)
        replace hs := p19.st hs
        refine q_take rfl rfl ((p19.ne rfl).trans s48) rfl ?_
        refine g_load rfl s49 Try.isAgg9 (box_cell h_q2 rfl) ?_
        intro a20 p20
        have s50 : a20.eval (.tmp 50) = .string ⟨(rest).toArray⟩ := p20.at hs (by decide)
        replace hs := p20.st hs
        refine q_take rfl rfl (((p20.ne rfl).trans (p19.ne rfl)).trans s48) rfl ?_
        refine g_lenS rfl Try.underlying9 s50 ?_
        intro a21 p21
        have s51 : a21.eval (.tmp 51) = .int .i64 (((rest).length : Nat) : Int) := p21.at hs (by decide)
        replace hs := p21.st hs
        refine q_take rfl rfl (((p21.ne rfl).trans ((p20.ne rfl).trans (p19.ne rfl))).trans s48) rfl ?_
        refine g_leq rfl s51 rfl ?_
        intro a22 p22
        have s52 : a22.eval (.tmp 52) = .bool (decide ((((rest).length : Nat) : Int) ≤ 5000)) := p22.at hs (by decide)
        replace hs := p22.st hs
        refine q_val rfl rfl ?_
        refine g_pick_t rfl (((p22.ne rfl).trans ((p21.ne rfl).trans ((p20.ne rfl).trans (p19.ne rfl)))).trans s48) s52 ?_
        intro a23 p23
        have s53 : a23.eval (.tmp 53) = .bool (decide ((((rest).length : Nat) : Int) ≤ 5000)) := p23.at hs (by decide)
        replace hs := p23.st hs
        refine q_val rfl rfl ?_
        refine g_assign rfl s53 ?_
        intro a24 p24
        have s2 : a24.eval (.tmp 2) = .bool (decide ((((rest).length : Nat) : Int) ≤ 5000)) := p24.at hs (by decide)
        replace hs := p24.st hs
        refine wpList_nil ?_
        refine hK46 _ _ ?_
        clear hK46
        refine wp_ret ?_
        try dsimp only [Exit.then, Exit.inBlock]
        refine ret1 hs Try.results40 (res_tmp s2) ?_
        exact ⟨by unfold pkrOk; rw [hst]; simp [h1, h2], hB⟩
set_option maxRecDepth 100000 in
theorem clonePacker_any (ch ct : Int) (rest : List UInt8) (B : Option Addr) (m dp : Nat) (ds : List Int) (w : World) (hx : Txt rest) (hm : ds.length = m) (hbm : m ≤ 1048577) (hnn_d : B = none → m = 0 ∧ dp = 0) (hr_d : Rd w 1 B m (ds.flatMap cI)) :
    Calls Try.prog 35 #[.agg #[.int .i64 ch, .int .i64 ct, .string ⟨rest.toArray⟩, .slice B m dp]] w fun e w' => ∃ A c, e = .returned (.agg #[.int .i64 ch, .int .i64 ct, .string ⟨rest.toArray⟩, .slice A m c]) ∧ w'.ownsRow w.heap.size 3 1 (.slice A m c) m (ds.flatMap cI) ∧ Below w.heap.size w w' := by
  subst hm
  refine enter 8 Try.func35 rfl rfl (Nat.le_of_ble_eq_true rfl) ?_
  intro a0 hs hargs
  have s0 : a0.eval (.tmp 0) = .agg #[.int .i64 ch, .int .i64 ct, .string ⟨(rest).toArray⟩, .slice B ds.length dp] := hargs 0 _ rfl
  clear hargs
  have hB : Below w.heap.size w w := Below.refl _ _
  refine wp_seq_k fun K1 hK1 => ?_
  refine wp_region_lit ?_
  refine q_val rfl rfl ?_
  refine g_box rfl s0 rfl ?_
  intro q2 w3 N_q2
  have g_q2 : GeB w.heap.size q2 := ⟨Nat.le_trans hB.size N_q2.lo⟩
  replace hB := below_new hB hB.size N_q2
  have h_q2 := N_q2.here
  clear N_q2
  intro a1 p1
  have s1 : a1.eval (.tmp 1) = .pointer (some ⟨q2, 0, none⟩) := p1.at hs (by decide)
  replace hs := p1.st hs
  refine q_val rfl rfl ?_
  refine g_alloc rfl Try.zeroValue28 rfl ?_
  intro q4 w5 N_q4
  have n_q2_q4 := N_q4.ne ⟨lt_of_block h_q2⟩
  have n_q4_q2 := n_q2_q4.symm
  have g_q4 : GeB w.heap.size q4 := ⟨Nat.le_trans hB.size N_q4.lo⟩
  replace h_q2 := keep_below h_q2 N_q4.below
  replace hB := below_new hB hB.size N_q4
  have h_q4 := N_q4.here
  clear N_q4
  intro a2 p2
  have s2 : a2.eval (.tmp 2) = .pointer (some ⟨q4, 0, none⟩) := p2.at hs (by decide)
  replace hs := p2.st hs
  refine wpList_nil ?_
  replace s1 : a2.eval (.tmp 1) = .pointer (some ⟨q2, 0, none⟩) := (p2.ne rfl).trans s1
  refine hK1 _ _ ?_
  clear hK1
  refine wp_seq_k fun K6 hK6 => ?_
  refine wp_region_lit ?_
  refine q_val rfl rfl ?_
  refine g_field (r := 3) rfl s1 Try.underlying28 rfl (fun w => Try.sizeOf26 w) rfl rfl ?_
  intro a3 p3
  have s3 : a3.eval (.tmp 3) = .pointer (some ⟨q2, 3, none⟩) := p3.at hs (by decide)
  replace hs := p3.st hs
  refine q_val rfl rfl ?_
  refine g_load rfl s3 Try.isAgg26 (box_cell h_q2 rfl) ?_
  intro a4 p4
  have s4 : a4.eval (.tmp 4) = .slice B ds.length dp := p4.at hs (by decide)
  replace hs := p4.st hs
  refine q_val rfl rfl ?_
  refine g_call rfl rfl Try.call54 (arr1 s4) ?_
  refine (cloneI_any _ _ _ ds _ rfl (by omega) (hr_d.below hB)).mono ?_
  rintro e w8 ⟨A7, c7, rfl, o_x7, hb7⟩
  refine ⟨_, rfl, ?_⟩
  have d_x7_q2 := own_ne_box o_x7 (lt_of_block h_q2)
  have d_x7_q4 := own_ne_box o_x7 (lt_of_block h_q4)
  have g_x7 : ∀ b, (A7 : Option Addr).map (·.block) = some b → w.heap.size ≤ b := fun b h => Nat.le_trans hB.size (own_row o_x7 b h).1
  replace o_x7 := own_base (base := w.heap.size) o_x7 hB.size
  replace h_q2 := keep_below h_q2 hb7
  replace h_q4 := keep_below h_q4 hb7
  replace hB := hB.trans (hb7.mono hB.size)
  clear hb7
  intro a5 p5
  have s5 : a5.eval (.tmp 5) = .slice A7 ds.length c7 := p5.at hs (by decide)
  replace hs := p5.st hs
  refine q_val rfl rfl ?_
  refine g_field (r := 3) rfl (((p5.ne rfl).trans ((p4.ne rfl).trans (p3.ne rfl))).trans s1) Try.underlying28 rfl (fun w => Try.sizeOf26 w) rfl rfl ?_
  intro a6 p6
  have s6 : a6.eval (.tmp 6) = .pointer (some ⟨q2, 3, none⟩) := p6.at hs (by decide)
  replace hs := p6.st hs
  refine q_eff rfl rfl ?_
  refine g_store (cs' := #[.int .i64 ch, .int .i64 ct, .string ⟨(rest).toArray⟩, .slice A7 ds.length c7]) rfl s6 ((p6.ne rfl).trans s5) Try.sizeOf26 rfl h_q2 (Nat.le_of_ble_eq_true rfl) rfl ?_
  intro w9 W_w9
  replace h_q2 := W_w9.here
  replace h_q4 := keep_wrote h_q4 W_w9 n_q2_q4
  replace o_x7 := own_wrote o_x7 W_w9 d_x7_q2
  replace hB := below_wrote hB hB.size W_w9 g_q2.le
  clear W_w9
  refine wpList_nil ?_
  replace s1 : a6.eval (.tmp 1) = .pointer (some ⟨q2, 0, none⟩) := ((p6.ne rfl).trans ((p5.ne rfl).trans ((p4.ne rfl).trans (p3.ne rfl)))).trans s1
  replace s2 : a6.eval (.tmp 2) = .pointer (some ⟨q4, 0, none⟩) := ((p6.ne rfl).trans ((p5.ne rfl).trans ((p4.ne rfl).trans (p3.ne rfl)))).trans s2
  refine hK6 _ _ ?_
  clear hK6
  refine wp_seq_k fun K10 hK10 => ?_
  refine wp_region_lit ?_
  refine q_val rfl rfl ?_
  refine g_loadB rfl s1 Try.isAgg28 Try.sizeOf28 rfl h_q2 ?_
  intro a7 p7
  have s7 : a7.eval (.tmp 7) = .agg #[.int .i64 ch, .int .i64 ct, .string ⟨(rest).toArray⟩, .slice A7 ds.length c7] := p7.at hs (by decide)
  replace hs := p7.st hs
  refine q_eff rfl rfl ?_
  refine g_storeB rfl ((p7.ne rfl).trans s2) s7 Try.sizeOf28 rfl rfl h_q4 rfl ?_
  intro w11 W_w11
  replace h_q2 := keep_wrote h_q2 W_w11 n_q4_q2
  replace h_q4 := W_w11.here
  replace o_x7 := own_wrote o_x7 W_w11 d_x7_q4
  replace hB := below_wrote hB hB.size W_w11 g_q4.le
  clear W_w11
  refine wpList_nil ?_
  replace s2 : a7.eval (.tmp 2) = .pointer (some ⟨q4, 0, none⟩) := (p7.ne rfl).trans s2
  refine hK10 _ _ ?_
  clear hK10
  refine wp_ret ?_
  try dsimp only [Exit.then, Exit.inBlock]
  refine ret1 hs Try.results35 (res_cell s2 h_q4 Try.isAgg28 Try.sizeOf28 rfl) ?_
  exact ⟨_, _, rfl, o_x7, hB⟩
set_option maxRecDepth 100000 in
theorem l03Copy_any (ch ct : Int) (rest : List UInt8) (B : Option Addr) (m dp : Nat) (ds : List Int) (w : World) (hx : Txt rest) (hm : ds.length = m) (hbm : m ≤ 1048577) (hnn_d : B = none → m = 0 ∧ dp = 0) (hr_d : Rd w 1 B m (ds.flatMap cI)) :
    Calls Try.prog 41 #[.agg #[.int .i64 ch, .int .i64 ct, .string ⟨rest.toArray⟩, .slice B m dp]] w fun e w' => ∃ A c, e = .returned (.agg #[.int .i64 ch, .int .i64 ct, .string ⟨rest.toArray⟩, .slice A m c]) ∧ w'.ownsRow w.heap.size 3 1 (.slice A m c) m (ds.flatMap cI) ∧ Below w.heap.size w w' := by
  subst hm
  refine enter 9 Try.func41 rfl rfl (Nat.le_of_ble_eq_true rfl) ?_
  intro a0 hs hargs
  have s0 : a0.eval (.tmp 0) = .agg #[.int .i64 ch, .int .i64 ct, .string ⟨(rest).toArray⟩, .slice B ds.length dp] := hargs 0 _ rfl
  clear hargs
  have hB : Below w.heap.size w w := Below.refl _ _
  refine wp_seq_k fun K1 hK1 => ?_
  refine wp_region_lit ?_
  refine q_val rfl rfl ?_
  refine g_box rfl s0 rfl ?_
  intro q2 w3 N_q2
  have g_q2 : GeB w.heap.size q2 := ⟨Nat.le_trans hB.size N_q2.lo⟩
  replace hB := below_new hB hB.size N_q2
  have h_q2 := N_q2.here
  clear N_q2
  intro a1 p1
  have s1 : a1.eval (.tmp 1) = .pointer (some ⟨q2, 0, none⟩) := p1.at hs (by decide)
  replace hs := p1.st hs
  refine q_val rfl rfl ?_
  refine g_alloc rfl Try.zeroValue28 rfl ?_
  intro q4 w5 N_q4
  have n_q2_q4 := N_q4.ne ⟨lt_of_block h_q2⟩
  have n_q4_q2 := n_q2_q4.symm
  have g_q4 : GeB w.heap.size q4 := ⟨Nat.le_trans hB.size N_q4.lo⟩
  replace h_q2 := keep_below h_q2 N_q4.below
  replace hB := below_new hB hB.size N_q4
  have h_q4 := N_q4.here
  clear N_q4
  intro a2 p2
  have s2 : a2.eval (.tmp 2) = .pointer (some ⟨q4, 0, none⟩) := p2.at hs (by decide)
  replace hs := p2.st hs
  refine wpList_nil ?_
  replace s1 : a2.eval (.tmp 1) = .pointer (some ⟨q2, 0, none⟩) := (p2.ne rfl).trans s1
  refine hK1 _ _ ?_
  clear hK1
  refine wp_seq_k fun K6 hK6 => ?_
  refine wp_region_lit ?_
  refine q_val rfl rfl ?_
  refine g_bslice0 rfl Try.underlying26 Try.sizeOf3 ?_
  intro q7 w8 N_q7
  have n_q2_q7 := N_q7.ne ⟨lt_of_block h_q2⟩
  have n_q7_q2 := n_q2_q7.symm
  have n_q4_q7 := N_q7.ne ⟨lt_of_block h_q4⟩
  have n_q7_q4 := n_q4_q7.symm
  have g_q7 : GeB w.heap.size q7 := ⟨Nat.le_trans hB.size N_q7.lo⟩
  replace h_q2 := keep_below h_q2 N_q7.below
  replace h_q4 := keep_below h_q4 N_q7.below
  replace hB := below_new hB hB.size N_q7
  have h_q7 := N_q7.here
  clear N_q7
  intro a3 p3
  have s3 : a3.eval (.tmp 3) = .slice (some ⟨q7, 0, none⟩) 0 0 := p3.at hs (by decide)
  replace hs := p3.st hs
  refine q_val rfl rfl ?_
  refine g_field (r := 3) rfl ((p3.ne rfl).trans s1) Try.underlying28 rfl (fun w => Try.sizeOf26 w) rfl rfl ?_
  intro a4 p4
  have s4 : a4.eval (.tmp 4) = .pointer (some ⟨q2, 3, none⟩) := p4.at hs (by decide)
  replace hs := p4.st hs
  refine q_val rfl rfl ?_
  refine g_load rfl s4 Try.isAgg26 (box_cell h_q2 rfl) ?_
  intro a5 p5
  have s5 : a5.eval (.tmp 5) = .slice B ds.length dp := p5.at hs (by decide)
  replace hs := p5.st hs
  refine q_val rfl rfl ?_
  refine g_append (n' := ds.length) (ys := (ds).flatMap cI) w.heap.size (.int .i64 0) 1 8 rfl (((p5.ne rfl).trans (p4.ne rfl)).trans s3) s5 Try.underlying26 infoI64 rfl (by decide) (own_box_row (base := w.heap.size) (xs := ([]).flatMap cI) h_q7 g_q7.le rfl (by decide) rfl) hnn_d (hr_d.below hB) (flatI_one _) (by omega) hB.size (by decide) (by omega) (by first | rfl | simp [List.flatMap_append] | (simp [List.flatMap_append, cI]; done)) ?_
  intro A_r9 c_r9 w10 P_r9
  have d_r9_q2 := P_r9.ne (neb_map n_q7_q2) (lt_of_block h_q2)
  have d_r9_q4 := P_r9.ne (neb_map n_q7_q4) (lt_of_block h_q4)
  have g_r9 := P_r9.ge (ge_box g_q7.le) hB.size
  replace h_q2 := keep_grown h_q2 P_r9.grown (neb_map n_q7_q2)
  replace h_q4 := keep_grown h_q4 P_r9.grown (neb_map n_q7_q4)
  replace hB := below_grown hB hB.size P_r9.grown (ge_box g_q7.le)
  have o_r9 := P_r9.own
  clear P_r9
  intro a6 p6
  have s6 : a6.eval (.tmp 6) = .slice A_r9 ds.length c_r9 := p6.at hs (by decide)
  replace hs := p6.st hs
  refine q_val rfl rfl ?_
  refine g_field (r := 3) rfl (((p6.ne rfl).trans ((p5.ne rfl).trans ((p4.ne rfl).trans (p3.ne rfl)))).trans s1) Try.underlying28 rfl (fun w => Try.sizeOf26 w) rfl rfl ?_
  intro a7 p7
  have s7 : a7.eval (.tmp 7) = .pointer (some ⟨q2, 3, none⟩) := p7.at hs (by decide)
  replace hs := p7.st hs
  refine q_eff rfl rfl ?_
  refine g_store (cs' := #[.int .i64 ch, .int .i64 ct, .string ⟨(rest).toArray⟩, .slice A_r9 ds.length c_r9]) rfl s7 ((p7.ne rfl).trans s6) Try.sizeOf26 rfl h_q2 (Nat.le_of_ble_eq_true rfl) rfl ?_
  intro w11 W_w11
  replace h_q2 := W_w11.here
  replace h_q4 := keep_wrote h_q4 W_w11 n_q2_q4
  replace o_r9 := own_wrote o_r9 W_w11 d_r9_q2
  replace hB := below_wrote hB hB.size W_w11 g_q2.le
  clear W_w11
  refine wpList_nil ?_
  replace s1 : a7.eval (.tmp 1) = .pointer (some ⟨q2, 0, none⟩) := ((p7.ne rfl).trans ((p6.ne rfl).trans ((p5.ne rfl).trans ((p4.ne rfl).trans (p3.ne rfl))))).trans s1
  replace s2 : a7.eval (.tmp 2) = .pointer (some ⟨q4, 0, none⟩) := ((p7.ne rfl).trans ((p6.ne rfl).trans ((p5.ne rfl).trans ((p4.ne rfl).trans (p3.ne rfl))))).trans s2
  refine hK6 _ _ ?_
  clear hK6
  refine wp_seq_k fun K12 hK12 => ?_
  refine wp_region_lit ?_
  refine q_val rfl rfl ?_
  refine g_loadB rfl s1 Try.isAgg28 Try.sizeOf28 rfl h_q2 ?_
  intro a8 p8
  have s8 : a8.eval (.tmp 8) = .agg #[.int .i64 ch, .int .i64 ct, .string ⟨(rest).toArray⟩, .slice A_r9 ds.length c_r9] := p8.at hs (by decide)
  replace hs := p8.st hs
  refine q_eff rfl rfl ?_
  refine g_storeB rfl ((p8.ne rfl).trans s2) s8 Try.sizeOf28 rfl rfl h_q4 rfl ?_
  intro w13 W_w13
  replace h_q2 := keep_wrote h_q2 W_w13 n_q4_q2
  replace h_q4 := W_w13.here
  replace o_r9 := own_wrote o_r9 W_w13 d_r9_q4
  replace hB := below_wrote hB hB.size W_w13 g_q4.le
  clear W_w13
  refine wpList_nil ?_
  replace s2 : a8.eval (.tmp 2) = .pointer (some ⟨q4, 0, none⟩) := (p8.ne rfl).trans s2
  refine hK12 _ _ ?_
  clear hK12
  refine wp_ret ?_
  try dsimp only [Exit.then, Exit.inBlock]
  refine ret1 hs Try.results41 (res_cell s2 h_q4 Try.isAgg28 Try.sizeOf28 rfl) ?_
  exact ⟨_, _, rfl, o_r9, hB⟩
end Go.Proofs.Ytmcgmiapbdoocaa
