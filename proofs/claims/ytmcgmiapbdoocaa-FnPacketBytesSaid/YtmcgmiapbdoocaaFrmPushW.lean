/- Contracts: frames are pushed into an unpacker. No condition. -/
import Derived.Test.YtmcgmiapbdoocaaFrmTf
import Derived.Test.YtmcgmiapbdoocaaDrawTree
namespace Go.Proofs.Ytmcgmiapbdoocaa
open Go.RowKit

theorem decs_go {r r0 : List UInt8} {l : List EPacket} (h : decs r0 = (l ++ (decs r).1, (decs r).2)) (ho : dpO r = true) : decs r0 = ((l ++ [dpX r]) ++ (decs (r.drop (dpN r))).1, (decs (r.drop (dpN r))).2) := by
  obtain ⟨h1, h2, _⟩ := dpO_true ho
  rw [h, decs_some h1, ← h2, List.append_assoc]
  rfl
theorem decs_end {r r0 : List UInt8} {l : List EPacket} (h : decs r0 = (l ++ (decs r).1, (decs r).2)) (ho : dpO r = false) : decs r0 = (l, r) := by
  rw [h, decs_none (dpO_false ho)]
  simp
theorem notIdle_yes {l : List EPacket} {x : EPacket} (h : ¬ x.f0 = 15) : notIdle (l ++ [x]) = notIdle l ++ [x] := by
  rw [notIdle_append]
  congr 1
  unfold notIdle
  rw [List.filter_cons_of_pos (by rw [decide_eq_false h]; rfl)]
  rfl
theorem notIdle_skip {l : List EPacket} {x : EPacket} (h : x.f0 = 15) : notIdle (l ++ [x]) = notIdle l := by
  rw [notIdle_append]
  have : notIdle [x] = [] := by
    unfold notIdle
    rw [List.filter_cons_of_neg (by rw [decide_eq_true h]; simp)]
    rfl
  rw [this, List.append_nil]
theorem notIdle_len (l : List EPacket) : (notIdle l).length ≤ l.length := List.length_filter_le _ _
theorem unpOk_parts {u : EUnp} (h : unpOk u = true) : (0 ≤ u.ch ∧ u.ch ≤ 2) ∧ (-1 ≤ u.nx ∧ u.nx ≤ 255) ∧ (0 ≤ u.lost ∧ u.lost ≤ 1000000) ∧ (u.sy = false → u.rest = []) ∧ u.rest.length ≤ 43 := by
  unfold unpOk at h
  simp only [Bool.and_eq_true, Bool.or_eq_true, decide_eq_true_eq] at h
  obtain ⟨h1, h2, h3, h4, h5⟩ := h
  exact ⟨inB_true h1, inB_true h2, inB_true h3, fun hs => h4.resolve_left (by rw [hs]; decide), by omega⟩
theorem frOk_parts {f : EFrame} (h : frOk f = true) : (0 ≤ f.f0 ∧ f.f0 ≤ 2) ∧ (0 ≤ f.f1 ∧ f.f1 ≤ 255) ∧ (0 ≤ f.f2 ∧ (f.f2 ≤ 23 ∨ f.f2 = 255)) ∧ f.f3.length = 24 := by
  unfold frOk at h
  simp only [Bool.and_eq_true, Bool.or_eq_true, decide_eq_true_eq] at h
  obtain ⟨h1, h2, h3, h4⟩ := h
  refine ⟨inB_true h1, inB_true h2, ?_, by omega⟩
  rcases h3 with h3 | h3
  · have := inB_true h3
    omega
  · omega
theorem badH_short {r : List UInt8} (h : ¬ (4 : Int) ≤ ((r.length : Nat) : Int)) : badH r = false := by
  unfold badH
  rw [decide_eq_false (by omega)]
  rfl
theorem badH_1 {r : List UInt8} (h : (4 : Int) ≤ ((r.length : Nat) : Int)) (h1 : 15 < nth r ((0 : Nat) : Int)) : badH r = true := by
  have h1' : 15 < nth r 0 := h1
  unfold badH
  rw [decide_eq_true (by omega), decide_eq_true h1']
  rfl
theorem badH_2 {r : List UInt8} (h : (4 : Int) ≤ ((r.length : Nat) : Int)) (h1 : ¬ 15 < nth r ((0 : Nat) : Int)) (h2 : 40 < nth r ((3 : Nat) : Int)) : badH r = true := by
  have h1' : ¬ 15 < nth r 0 := h1
  have h2' : 40 < nth r 3 := h2
  unfold badH
  rw [decide_eq_true (by omega), decide_eq_false h1', decide_eq_true h2']
  rfl
theorem badH_no {r : List UInt8} (h : (4 : Int) ≤ ((r.length : Nat) : Int)) (h1 : ¬ 15 < nth r ((0 : Nat) : Int)) (h2 : ¬ 40 < nth r ((3 : Nat) : Int)) : badH r = false := by
  have h1' : ¬ 15 < nth r 0 := h1
  have h2' : ¬ 40 < nth r 3 := h2
  unfold badH
  rw [decide_eq_true (by omega), decide_eq_false h1', decide_eq_false h2']
  rfl
/-- What an unpacker is ahead of the reading of packets. -/
def preU (v : EUnp) (x : EFrame) (r : List UInt8) : EUnp := ⟨v.ch, (x.f1 + 1) % 256, syU v x, r, v.lost⟩
theorem core_bad {v : EUnp} {x : EFrame} (h : badH (decs (restU v x)).2 = true) : coreU v x = loseU (preU v x (decs (restU v x)).2) := by
  unfold coreU
  simp only [h, if_true]
  rfl
theorem core_good {v : EUnp} {x : EFrame} (h : badH (decs (restU v x)).2 = false) : coreU v x = preU v x (decs (restU v x)).2 := by
  unfold coreU
  simp only [h, Bool.false_eq_true, if_false]
  rfl
set_option maxRecDepth 100000 in
set_option maxHeartbeats 4000000 in
theorem pushFrame_any {u : EUnp} {x : EFrame} (w : World) (hu : unpOk u = true) (hf : frOk x = true) (hch : u.ch = x.f0) :
    Calls Try.prog 37 #[.agg #[.int .i64 u.ch, .int .i64 u.nx, .bool u.sy, .string ⟨(u.rest).toArray⟩, .int .i64 u.lost], .agg #[.int .i64 x.f0, .int .i64 x.f1, .int .i64 x.f2, .string ⟨(x.f3).toArray⟩]] w fun e w' => ∃ (L : Option Addr) (c : Nat), e = .returned (.tuple #[.agg #[.int .i64 (pushU u x).ch, .int .i64 (pushU u x).nx, .bool (pushU u x).sy, .string ⟨((pushU u x).rest).toArray⟩, .int .i64 (pushU u x).lost], .slice L (pushL u x).length c]) ∧ w'.ownsRow w.heap.size 32 3 (.slice L (pushL u x).length c) (pushL u x).length ((pushL u x).flatMap cPacket) ∧ Below w.heap.size w w' := by
  refine enter 108 Try.func37 rfl rfl (Nat.le_of_ble_eq_true rfl) ?_
  intro a0 hs hargs
  have s0 : a0.eval (.tmp 0) = .agg #[.int .i64 u.ch, .int .i64 u.nx, .bool u.sy, .string ⟨(u.rest).toArray⟩, .int .i64 u.lost] := hargs 0 _ rfl
  have s1 : a0.eval (.tmp 1) = .agg #[.int .i64 x.f0, .int .i64 x.f1, .int .i64 x.f2, .string ⟨(x.f3).toArray⟩] := hargs 1 _ rfl
  clear hargs
  have hB : Below w.heap.size w w := Below.refl _ _
  obtain ⟨v, hv⟩ : ∃ v : EUnp, v = lostU u x := ⟨_, rfl⟩
  obtain ⟨⟨hp1, hp2⟩, ⟨hp3, hp3b⟩, ⟨hp6, hp7⟩, hp4, hp5⟩ := unpOk_parts hu
  obtain ⟨⟨f1, f2⟩, ⟨f3, f4⟩, ⟨f5, f6⟩, f7⟩ := frOk_parts hf
  refine wp_seq_k fun K1 hK1 => ?_
  refine wp_region_lit ?_
  refine q_val rfl rfl ?_
  refine g_box rfl s0 rfl ?_
  intro q2 w3 N_q2
  have g_q2 : GeB w.heap.size q2 := ⟨Nat.le_trans hB.size N_q2.lo⟩
  replace hB := below_new hB hB.size N_q2
  have h_q2 := N_q2.here
  clear N_q2
  intro a1 p1
  have s2 : a1.eval (.tmp 2) = .pointer (some ⟨q2, 0, none⟩) := p1.at hs (by decide)
  replace hs := p1.st hs
  refine q_val rfl rfl ?_
  refine g_box rfl ((p1.ne rfl).trans s1) rfl ?_
  intro q4 w5 N_q4
  have n_q2_q4 := N_q4.ne ⟨lt_of_block h_q2⟩
  have n_q4_q2 := n_q2_q4.symm
  have g_q4 : GeB w.heap.size q4 := ⟨Nat.le_trans hB.size N_q4.lo⟩
  replace h_q2 := keep_below h_q2 N_q4.below
  replace hB := below_new hB hB.size N_q4
  have h_q4 := N_q4.here
  clear N_q4
  intro a2 p2
  have s3 : a2.eval (.tmp 3) = .pointer (some ⟨q4, 0, none⟩) := p2.at hs (by decide)
  replace hs := p2.st hs
  refine q_val rfl rfl ?_
  refine g_alloc rfl Try.zeroValue42 rfl ?_
  intro q6 w7 N_q6
  have n_q2_q6 := N_q6.ne ⟨lt_of_block h_q2⟩
  have n_q6_q2 := n_q2_q6.symm
  have n_q4_q6 := N_q6.ne ⟨lt_of_block h_q4⟩
  have n_q6_q4 := n_q4_q6.symm
  have g_q6 : GeB w.heap.size q6 := ⟨Nat.le_trans hB.size N_q6.lo⟩
  replace h_q2 := keep_below h_q2 N_q6.below
  replace h_q4 := keep_below h_q4 N_q6.below
  replace hB := below_new hB hB.size N_q6
  have h_q6 := N_q6.here
  clear N_q6
  intro a3 p3
  have s4 : a3.eval (.tmp 4) = .pointer (some ⟨q6, 0, none⟩) := p3.at hs (by decide)
  replace hs := p3.st hs
  refine q_val rfl rfl ?_
  refine g_assign rfl rfl ?_
  intro a4 p4
  have s5 : a4.eval (.tmp 5) = .slice none 0 0 := p4.at hs (by decide)
  replace hs := p4.st hs
  refine wpList_nil ?_
  replace s2 : a4.eval (.tmp 2) = .pointer (some ⟨q2, 0, none⟩) := ((p4.ne rfl).trans ((p3.ne rfl).trans (p2.ne rfl))).trans s2
  replace s3 : a4.eval (.tmp 3) = .pointer (some ⟨q4, 0, none⟩) := ((p4.ne rfl).trans (p3.ne rfl)).trans s3
  replace s4 : a4.eval (.tmp 4) = .pointer (some ⟨q6, 0, none⟩) := (p4.ne rfl).trans s4
  refine hK1 _ _ ?_
  clear hK1
  refine wp_seq_k fun K8 hK8 => ?_
  refine wp_seq_k fun K9 hK9 => ?_
  refine wp_region_lit ?_
  refine q_val rfl rfl ?_
  refine g_loadB rfl s2 Try.isAgg42 Try.sizeOf42 rfl h_q2 ?_
  intro a5 p5
  have s10 : a5.eval (.tmp 10) = .agg #[.int .i64 u.ch, .int .i64 u.nx, .bool u.sy, .string ⟨(u.rest).toArray⟩, .int .i64 u.lost] := p5.at hs (by decide)
  replace hs := p5.st hs
  refine q_val rfl rfl ?_
  refine g_call rfl rfl Try.call16 (arr1 s10) ?_
  refine (unpackerOk_any _ (by unfold Txt; omega)).mono ?_
  rintro e w11 ⟨rfl, hb10⟩
  refine ⟨_, rfl, ?_⟩
  replace h_q2 := keep_below h_q2 hb10
  replace h_q4 := keep_below h_q4 hb10
  replace h_q6 := keep_below h_q6 hb10
  replace hB := hB.trans (hb10.mono hB.size)
  clear hb10
  intro a6 p6
  have s11 : a6.eval (.tmp 11) = .bool true := (p6.at hs (by decide)).trans (congrArg Value.bool hu)
  replace hs := p6.st hs
  refine q_val rfl rfl ?_
  refine g_not rfl s11 ?_
  intro a7 p7
  have s12 : a7.eval (.tmp 12) = .bool false := p7.at hs (by decide)
  replace hs := p7.st hs
  refine q_val rfl rfl ?_
  refine g_move rfl s12 ?_
  intro a8 p8
  have s13 : a8.eval (.tmp 13) = .bool false := p8.at hs (by decide)
  replace hs := p8.st hs
  refine q_take rfl rfl s13 rfl ?_
  refine g_loadB rfl (((p8.ne rfl).trans ((p7.ne rfl).trans ((p6.ne rfl).trans (p5.ne rfl)))).trans s3) Try.isAgg40 Try.sizeOf40 rfl h_q4 ?_
  intro a9 p9
  have s14 : a9.eval (.tmp 14) = .agg #[.int .i64 x.f0, .int .i64 x.f1, .int .i64 x.f2, .string ⟨(x.f3).toArray⟩] := p9.at hs (by decide)
  replace hs := p9.st hs
  refine q_take rfl rfl ((p9.ne rfl).trans s13) rfl ?_
  refine g_call rfl rfl Try.call30 (arr1 s14) ?_
  refine (frameOk_any _ (by unfold Txt; omega)).mono ?_
  rintro e w13 ⟨rfl, hb12⟩
  refine ⟨_, rfl, ?_⟩
  replace h_q2 := keep_below h_q2 hb12
  replace h_q4 := keep_below h_q4 hb12
  replace h_q6 := keep_below h_q6 hb12
  replace hB := hB.trans (hb12.mono hB.size)
  clear hb12
  intro a10 p10
  have s15 : a10.eval (.tmp 15) = .bool true := (p10.at hs (by decide)).trans (congrArg Value.bool hf)
  replace hs := p10.st hs
  refine q_take rfl rfl (((p10.ne rfl).trans (p9.ne rfl)).trans s13) rfl ?_
  refine g_not rfl s15 ?_
  intro a11 p11
  have s16 : a11.eval (.tmp 16) = .bool false := p11.at hs (by decide)
  replace hs := p11.st hs
  refine q_val rfl rfl ?_
  refine g_pick_f rfl (((p11.ne rfl).trans ((p10.ne rfl).trans (p9.ne rfl))).trans s13) s16 ?_
  intro a12 p12
  have s17 : a12.eval (.tmp 17) = .bool false := p12.at hs (by decide)
  replace hs := p12.st hs
  refine q_val rfl rfl ?_
  refine g_move rfl s17 ?_
  intro a13 p13
  have s18 : a13.eval (.tmp 18) = .bool false := p13.at hs (by decide)
  replace hs := p13.st hs
  refine q_take rfl rfl s18 rfl ?_
  refine g_field (r := 0) rfl (((p13.ne rfl).trans ((p12.ne rfl).trans ((p11.ne rfl).trans ((p10.ne rfl).trans ((p9.ne rfl).trans ((p8.ne rfl).trans ((p7.ne rfl).trans ((p6.ne rfl).trans (p5.ne rfl))))))))).trans s2) Try.underlying42 rfl (fun w => Try.sizeOf3 w) rfl rfl ?_
  intro a14 p14
  have s19 : a14.eval (.tmp 19) = .pointer (some ⟨q2, 0, none⟩) := p14.at hs (by decide)
  replace hs := p14.st hs
  refine q_take rfl rfl ((p14.ne rfl).trans s18) rfl ?_
  refine g_load rfl s19 Try.isAgg3 (box_cell h_q2 rfl) ?_
  intro a15 p15
  have s20 : a15.eval (.tmp 20) = .int .i64 u.ch := p15.at hs (by decide)
  replace hs := p15.st hs
  refine q_take rfl rfl (((p15.ne rfl).trans (p14.ne rfl)).trans s18) rfl ?_
  refine g_field (r := 0) rfl (((p15.ne rfl).trans ((p14.ne rfl).trans ((p13.ne rfl).trans ((p12.ne rfl).trans ((p11.ne rfl).trans ((p10.ne rfl).trans ((p9.ne rfl).trans ((p8.ne rfl).trans ((p7.ne rfl).trans ((p6.ne rfl).trans (p5.ne rfl))))))))))).trans s3) Try.underlying40 rfl (fun w => Try.sizeOf3 w) rfl rfl ?_
  intro a16 p16
  have s21 : a16.eval (.tmp 21) = .pointer (some ⟨q4, 0, none⟩) := p16.at hs (by decide)
  replace hs := p16.st hs
  refine q_take rfl rfl (((p16.ne rfl).trans ((p15.ne rfl).trans (p14.ne rfl))).trans s18) rfl ?_
  refine g_load rfl s21 Try.isAgg3 (box_cell h_q4 rfl) ?_
  intro a17 p17
  have s22 : a17.eval (.tmp 22) = .int .i64 x.f0 := p17.at hs (by decide)
  replace hs := p17.st hs
  refine q_take rfl rfl (((p17.ne rfl).trans ((p16.ne rfl).trans ((p15.ne rfl).trans (p14.ne rfl)))).trans s18) rfl ?_
  refine g_neq rfl (((p17.ne rfl).trans (p16.ne rfl)).trans s20) s22 ?_
  intro a18 p18
  have s23 : a18.eval (.tmp 23) = .bool false := (p18.at hs (by decide)).trans (congrArg (fun b => Value.bool (!b)) (decide_eq_true hch))
  replace hs := p18.st hs
  refine q_val rfl rfl ?_
  refine g_pick_f rfl (((p18.ne rfl).trans ((p17.ne rfl).trans ((p16.ne rfl).trans ((p15.ne rfl).trans (p14.ne rfl))))).trans s18) s23 ?_
  intro a19 p19
  have s24 : a19.eval (.tmp 24) = .bool false := p19.at hs (by decide)
  replace hs := p19.st hs
  refine wpList_nil ?_
  replace s2 : a19.eval (.tmp 2) = .pointer (some ⟨q2, 0, none⟩) := ((p19.ne rfl).trans ((p18.ne rfl).trans ((p17.ne rfl).trans ((p16.ne rfl).trans ((p15.ne rfl).trans ((p14.ne rfl).trans ((p13.ne rfl).trans ((p12.ne rfl).trans ((p11.ne rfl).trans ((p10.ne rfl).trans ((p9.ne rfl).trans ((p8.ne rfl).trans ((p7.ne rfl).trans ((p6.ne rfl).trans (p5.ne rfl))))))))))))))).trans s2
  replace s3 : a19.eval (.tmp 3) = .pointer (some ⟨q4, 0, none⟩) := ((p19.ne rfl).trans ((p18.ne rfl).trans ((p17.ne rfl).trans ((p16.ne rfl).trans ((p15.ne rfl).trans ((p14.ne rfl).trans ((p13.ne rfl).trans ((p12.ne rfl).trans ((p11.ne rfl).trans ((p10.ne rfl).trans ((p9.ne rfl).trans ((p8.ne rfl).trans ((p7.ne rfl).trans ((p6.ne rfl).trans (p5.ne rfl))))))))))))))).trans s3
  replace s4 : a19.eval (.tmp 4) = .pointer (some ⟨q6, 0, none⟩) := ((p19.ne rfl).trans ((p18.ne rfl).trans ((p17.ne rfl).trans ((p16.ne rfl).trans ((p15.ne rfl).trans ((p14.ne rfl).trans ((p13.ne rfl).trans ((p12.ne rfl).trans ((p11.ne rfl).trans ((p10.ne rfl).trans ((p9.ne rfl).trans ((p8.ne rfl).trans ((p7.ne rfl).trans ((p6.ne rfl).trans (p5.ne rfl))))))))))))))).trans s4
  replace s5 : a19.eval (.tmp 5) = .slice none 0 0 := ((p19.ne rfl).trans ((p18.ne rfl).trans ((p17.ne rfl).trans ((p16.ne rfl).trans ((p15.ne rfl).trans ((p14.ne rfl).trans ((p13.ne rfl).trans ((p12.ne rfl).trans ((p11.ne rfl).trans ((p10.ne rfl).trans ((p9.ne rfl).trans ((p8.ne rfl).trans ((p7.ne rfl).trans ((p6.ne rfl).trans (p5.ne rfl))))))))))))))).trans s5
  refine hK9 _ _ ?_
  clear hK9
  refine c_false s24 ?_
  refine wp_skip ?_
  refine hK8 _ _ ?_
  clear hK8
  refine wp_seq_k fun K14 hK14 => ?_
  have jK14 : ∀ (a : Act) (wr : World), (St 108 a) ∧ (a.eval (.tmp 2) = .pointer (some ⟨q2, 0, none⟩)) ∧ (a.eval (.tmp 3) = .pointer (some ⟨q4, 0, none⟩)) ∧ (a.eval (.tmp 4) = .pointer (some ⟨q6, 0, none⟩)) ∧ (a.eval (.tmp 5) = .slice none 0 0) ∧ (Below w.heap.size w wr) ∧ (wr.heap[q2]? = some (.cells #[.int .i64 v.ch, .int .i64 v.nx, .bool v.sy, .string ⟨(v.rest).toArray⟩, .int .i64 v.lost] 42 (0, 0))) ∧ (wr.heap[q4]? = some (.cells #[.int .i64 x.f0, .int .i64 x.f1, .int .i64 x.f2, .string ⟨(x.f3).toArray⟩] 40 (0, 0))) ∧ (wr.heap[q6]? = some (.cells #[.int .i64 0, .int .i64 0, .bool false, .string ⟨#[]⟩, .int .i64 0] 42 (0, 0))) ∧ (v.rest.length ≤ 43 ∧ (v.sy = false → v.rest = []) ∧ 0 ≤ v.lost ∧ v.lost ≤ 1000001) → K14 a wr := by
    rintro a20 w15 ⟨hs, s2, s3, s4, s5, hB, h_q2, h_q4, h_q6, hvr⟩
    obtain ⟨hr1, hr2, hr3, hr4⟩ := hvr
    refine hK14 _ _ ?_
    clear hK14
    refine wp_seq_k fun K16 hK16 => ?_
    refine wp_region_lit ?_
    refine q_val rfl rfl ?_
    refine g_field (r := 1) rfl s3 Try.underlying40 rfl (fun w => Try.sizeOf3 w) rfl rfl ?_
    intro a21 p21
    have s38 : a21.eval (.tmp 38) = .pointer (some ⟨q4, 1, none⟩) := p21.at hs (by decide)
    replace hs := p21.st hs
    refine q_val rfl rfl ?_
    refine g_load rfl s38 Try.isAgg3 (box_cell h_q4 rfl) ?_
    intro a22 p22
    have s39 : a22.eval (.tmp 39) = .int .i64 x.f1 := p22.at hs (by decide)
    replace hs := p22.st hs
    refine q_val rfl rfl ?_
    refine g_add (r := x.f1 + 1) rfl s39 rfl (by omega) (by omega) ?_
    intro a23 p23
    have s40 : a23.eval (.tmp 40) = .int .i64 (x.f1 + 1) := p23.at hs (by decide)
    replace hs := p23.st hs
    refine q_val rfl rfl ?_
    refine g_remI rfl s40 rfl (by omega) (by omega) (by omega) ?_
    intro a24 p24
    have s41 : a24.eval (.tmp 41) = .int .i64 ((x.f1 + 1) % 256) := p24.at hs (by decide)
    replace hs := p24.st hs
    refine q_val rfl rfl ?_
    refine g_field (r := 1) rfl (((p24.ne rfl).trans ((p23.ne rfl).trans ((p22.ne rfl).trans (p21.ne rfl)))).trans s2) Try.underlying42 rfl (fun w => Try.sizeOf3 w) rfl rfl ?_
    intro a25 p25
    have s42 : a25.eval (.tmp 42) = .pointer (some ⟨q2, 1, none⟩) := p25.at hs (by decide)
    replace hs := p25.st hs
    refine q_eff rfl rfl ?_
    refine g_store (cs' := #[.int .i64 v.ch, .int .i64 ((x.f1 + 1) % 256), .bool v.sy, .string ⟨(v.rest).toArray⟩, .int .i64 v.lost]) rfl s42 ((p25.ne rfl).trans s41) Try.sizeOf3 rfl h_q2 (Nat.le_of_ble_eq_true rfl) rfl ?_
    intro w17 W_w17
    replace h_q2 := W_w17.here
    replace h_q4 := keep_wrote h_q4 W_w17 n_q2_q4
    replace h_q6 := keep_wrote h_q6 W_w17 n_q2_q6
    replace hB := below_wrote hB hB.size W_w17 g_q2.le
    clear W_w17
    refine wpList_nil ?_
    replace s2 : a25.eval (.tmp 2) = .pointer (some ⟨q2, 0, none⟩) := ((p25.ne rfl).trans ((p24.ne rfl).trans ((p23.ne rfl).trans ((p22.ne rfl).trans (p21.ne rfl))))).trans s2
    replace s3 : a25.eval (.tmp 3) = .pointer (some ⟨q4, 0, none⟩) := ((p25.ne rfl).trans ((p24.ne rfl).trans ((p23.ne rfl).trans ((p22.ne rfl).trans (p21.ne rfl))))).trans s3
    replace s4 : a25.eval (.tmp 4) = .pointer (some ⟨q6, 0, none⟩) := ((p25.ne rfl).trans ((p24.ne rfl).trans ((p23.ne rfl).trans ((p22.ne rfl).trans (p21.ne rfl))))).trans s4
    replace s5 : a25.eval (.tmp 5) = .slice none 0 0 := ((p25.ne rfl).trans ((p24.ne rfl).trans ((p23.ne rfl).trans ((p22.ne rfl).trans (p21.ne rfl))))).trans s5
    refine hK16 _ _ ?_
    clear hK16
    refine wp_seq_k fun K18 hK18 => ?_
    have jK18 : ∀ (a : Act) (wr : World), (St 108 a) ∧ (a.eval (.tmp 2) = .pointer (some ⟨q2, 0, none⟩)) ∧ (a.eval (.tmp 4) = .pointer (some ⟨q6, 0, none⟩)) ∧ (a.eval (.tmp 5) = .slice none 0 0) ∧ (Below w.heap.size w wr) ∧ (wr.heap[q2]? = some (.cells #[.int .i64 v.ch, .int .i64 ((x.f1 + 1) % 256), .bool (syU v x), .string ⟨(restU v x).toArray⟩, .int .i64 v.lost] 42 (0, 0))) ∧ (wr.heap[q4]? = some (.cells #[.int .i64 x.f0, .int .i64 x.f1, .int .i64 x.f2, .string ⟨(x.f3).toArray⟩] 40 (0, 0))) ∧ (wr.heap[q6]? = some (.cells #[.int .i64 0, .int .i64 0, .bool false, .string ⟨#[]⟩, .int .i64 0] 42 (0, 0))) ∧ ((restU v x).length ≤ 100) → K18 a wr := by
      rintro a26 w19 ⟨hs, s2, s4, s5, hB, h_q2, h_q4, h_q6, hrl⟩
      refine hK18 _ _ ?_
      clear hK18
      refine wp_seq_k fun K20 hK20 => ?_
      refine wp_region_lit ?_
      refine q_val rfl rfl ?_
      refine g_assign rfl rfl ?_
      intro a27 p27
      have s6 : a27.eval (.tmp 6) = .slice none 0 0 := p27.at hs (by decide)
      replace hs := p27.st hs
      refine wpList_nil ?_
      replace s2 : a27.eval (.tmp 2) = .pointer (some ⟨q2, 0, none⟩) := (p27.ne rfl).trans s2
      replace s4 : a27.eval (.tmp 4) = .pointer (some ⟨q6, 0, none⟩) := (p27.ne rfl).trans s4
      replace s5 : a27.eval (.tmp 5) = .slice none 0 0 := (p27.ne rfl).trans s5
      refine hK20 _ _ ?_
      clear hK20
      refine wp_seq_k fun K21 hK21 => ?_
      refine wp_region_lit ?_
      refine q_val rfl rfl ?_
      refine g_field (r := 3) rfl s2 Try.underlying42 rfl (fun w => Try.sizeOf9 w) rfl rfl ?_
      intro a28 p28
      have s62 : a28.eval (.tmp 62) = .pointer (some ⟨q2, 3, none⟩) := p28.at hs (by decide)
      replace hs := p28.st hs
      refine q_val rfl rfl ?_
      refine g_load rfl s62 Try.isAgg9 (box_cell h_q2 rfl) ?_
      intro a29 p29
      have s63 : a29.eval (.tmp 63) = .string ⟨(restU v x).toArray⟩ := p29.at hs (by decide)
      replace hs := p29.st hs
      refine q_val rfl rfl ?_
      refine g_call rfl rfl Try.call24 (arr2 s63 rfl) ?_
      refine (decodePacket_any (restU v x) 0 _ (by (try rw [List.length_drop]); omega) (by omega)).mono ?_
      rintro e w23 ⟨rfl, hb22⟩
      refine ⟨_, rfl, ?_⟩
      replace h_q2 := keep_below h_q2 hb22
      replace h_q4 := keep_below h_q4 hb22
      replace h_q6 := keep_below h_q6 hb22
      replace hB := hB.trans (hb22.mono hB.size)
      clear hb22
      intro a30 p30
      have s64 : a30.eval (.tmp 64) = .tuple #[.agg #[.int .i64 ((dpX (restU v x)).f0), .int .i64 ((dpX (restU v x)).f1), .string ⟨((dpX (restU v x)).f2).toArray⟩], .int .i64 ((dpN (restU v x) : Nat) : Int), .bool (dpO (restU v x))] := p30.at hs (by decide)
      replace hs := p30.st hs
      refine q_val rfl rfl ?_
      refine g_move rfl s64 ?_
      intro a31 p31
      have s61 : a31.eval (.tmp 61) = .tuple #[.agg #[.int .i64 ((dpX (restU v x)).f0), .int .i64 ((dpX (restU v x)).f1), .string ⟨((dpX (restU v x)).f2).toArray⟩], .int .i64 ((dpN (restU v x) : Nat) : Int), .bool (dpO (restU v x))] := p31.at hs (by decide)
      replace hs := p31.st hs
      refine q_val rfl rfl ?_
      refine g_extract rfl s61 rfl ?_
      intro a32 p32
      have s65 : a32.eval (.tmp 65) = .agg #[.int .i64 ((dpX (restU v x)).f0), .int .i64 ((dpX (restU v x)).f1), .string ⟨((dpX (restU v x)).f2).toArray⟩] := p32.at hs (by decide)
      replace hs := p32.st hs
      refine q_val rfl rfl ?_
      refine g_extract rfl ((p32.ne rfl).trans s61) rfl ?_
      intro a33 p33
      have s66 : a33.eval (.tmp 66) = .int .i64 ((dpN (restU v x) : Nat) : Int) := p33.at hs (by decide)
      replace hs := p33.st hs
      refine q_val rfl rfl ?_
      refine g_extract rfl (((p33.ne rfl).trans (p32.ne rfl)).trans s61) rfl ?_
      intro a34 p34
      have s67 : a34.eval (.tmp 67) = .bool (dpO (restU v x)) := p34.at hs (by decide)
      replace hs := p34.st hs
      refine q_val rfl rfl ?_
      refine g_alloc rfl Try.zeroValue32 rfl ?_
      intro q24 w25 N_q24
      have n_q2_q24 := N_q24.ne ⟨lt_of_block h_q2⟩
      have n_q24_q2 := n_q2_q24.symm
      have n_q4_q24 := N_q24.ne ⟨lt_of_block h_q4⟩
      have n_q24_q4 := n_q4_q24.symm
      have n_q6_q24 := N_q24.ne ⟨lt_of_block h_q6⟩
      have n_q24_q6 := n_q6_q24.symm
      have g_q24 : GeB w.heap.size q24 := ⟨Nat.le_trans hB.size N_q24.lo⟩
      replace h_q2 := keep_below h_q2 N_q24.below
      replace h_q4 := keep_below h_q4 N_q24.below
      replace h_q6 := keep_below h_q6 N_q24.below
      replace hB := below_new hB hB.size N_q24
      have h_q24 := N_q24.here
      clear N_q24
      intro a35 p35
      have s7 : a35.eval (.tmp 7) = .pointer (some ⟨q24, 0, none⟩) := p35.at hs (by decide)
      replace hs := p35.st hs
      refine q_eff rfl rfl ?_
      refine g_storeB rfl s7 (((p35.ne rfl).trans ((p34.ne rfl).trans (p33.ne rfl))).trans s65) Try.sizeOf32 rfl rfl h_q24 rfl ?_
      intro w26 W_w26
      replace h_q2 := keep_wrote h_q2 W_w26 n_q24_q2
      replace h_q4 := keep_wrote h_q4 W_w26 n_q24_q4
      replace h_q6 := keep_wrote h_q6 W_w26 n_q24_q6
      replace h_q24 := W_w26.here
      replace hB := below_wrote hB hB.size W_w26 g_q24.le
      clear W_w26
      refine q_val rfl rfl ?_
      refine g_assign rfl (((p35.ne rfl).trans (p34.ne rfl)).trans s66) ?_
      intro a36 p36
      have s8 : a36.eval (.tmp 8) = .int .i64 ((dpN (restU v x) : Nat) : Int) := p36.at hs (by decide)
      replace hs := p36.st hs
      refine q_val rfl rfl ?_
      refine g_assign rfl (((p36.ne rfl).trans (p35.ne rfl)).trans s67) ?_
      intro a37 p37
      have s9 : a37.eval (.tmp 9) = .bool (dpO (restU v x)) := p37.at hs (by decide)
      replace hs := p37.st hs
      refine wpList_nil ?_
      replace s2 : a37.eval (.tmp 2) = .pointer (some ⟨q2, 0, none⟩) := ((p37.ne rfl).trans ((p36.ne rfl).trans ((p35.ne rfl).trans ((p34.ne rfl).trans ((p33.ne rfl).trans ((p32.ne rfl).trans ((p31.ne rfl).trans ((p30.ne rfl).trans ((p29.ne rfl).trans (p28.ne rfl)))))))))).trans s2
      replace s4 : a37.eval (.tmp 4) = .pointer (some ⟨q6, 0, none⟩) := ((p37.ne rfl).trans ((p36.ne rfl).trans ((p35.ne rfl).trans ((p34.ne rfl).trans ((p33.ne rfl).trans ((p32.ne rfl).trans ((p31.ne rfl).trans ((p30.ne rfl).trans ((p29.ne rfl).trans (p28.ne rfl)))))))))).trans s4
      replace s5 : a37.eval (.tmp 5) = .slice none 0 0 := ((p37.ne rfl).trans ((p36.ne rfl).trans ((p35.ne rfl).trans ((p34.ne rfl).trans ((p33.ne rfl).trans ((p32.ne rfl).trans ((p31.ne rfl).trans ((p30.ne rfl).trans ((p29.ne rfl).trans (p28.ne rfl)))))))))).trans s5
      replace s6 : a37.eval (.tmp 6) = .slice none 0 0 := ((p37.ne rfl).trans ((p36.ne rfl).trans ((p35.ne rfl).trans ((p34.ne rfl).trans ((p33.ne rfl).trans ((p32.ne rfl).trans ((p31.ne rfl).trans ((p30.ne rfl).trans ((p29.ne rfl).trans (p28.ne rfl)))))))))).trans s6
      replace s7 : a37.eval (.tmp 7) = .pointer (some ⟨q24, 0, none⟩) := ((p37.ne rfl).trans (p36.ne rfl)).trans s7
      replace s8 : a37.eval (.tmp 8) = .int .i64 ((dpN (restU v x) : Nat) : Int) := (p37.ne rfl).trans s8
      refine hK21 _ _ ?_
      clear hK21
      refine wp_seq_k fun K27 hK27 => ?_
      refine wp_block ?_
      have o_l : w26.ownsRow w.heap.size 32 3 (.slice none 0 0) 0 ([].flatMap cPacket) := World.ownsRow_nil _ _ _ _
      have g_l : ∀ b, (none : Option Addr).map (·.block) = some b → w.heap.size ≤ b := fun b h => by cases h
      have d_l_q2 : (none : Option Addr).map (·.block) ≠ some q2 := fun h => by cases h
      have d_l_q4 : (none : Option Addr).map (·.block) ≠ some q4 := fun h => by cases h
      have d_l_q6 : (none : Option Addr).map (·.block) ≠ some q6 := fun h => by cases h
      have d_l_q24 : (none : Option Addr).map (·.block) ≠ some q24 := fun h => by cases h
      refine wp_loop (fun a wr => ∃ (r : List UInt8) (l0 : List EPacket) (ls : List EPacket) (nl : Nat) (L : Option Addr) (cl : Nat), (St 108 a) ∧ (a.eval (.tmp 2) = .pointer (some ⟨q2, 0, none⟩)) ∧ (a.eval (.tmp 4) = .pointer (some ⟨q6, 0, none⟩)) ∧ (a.eval (.tmp 5) = .slice none 0 0) ∧ (a.eval (.tmp 6) = .slice L nl cl) ∧ (a.eval (.tmp 7) = .pointer (some ⟨q24, 0, none⟩)) ∧ (a.eval (.tmp 8) = .int .i64 ((dpN r : Nat) : Int)) ∧ (a.eval (.tmp 9) = .bool (dpO r)) ∧ (Below w.heap.size w wr) ∧ (wr.heap[q2]? = some (.cells #[.int .i64 v.ch, .int .i64 ((x.f1 + 1) % 256), .bool (syU v x), .string ⟨(r).toArray⟩, .int .i64 v.lost] 42 (0, 0))) ∧ (wr.heap[q4]? = some (.cells #[.int .i64 x.f0, .int .i64 x.f1, .int .i64 x.f2, .string ⟨(x.f3).toArray⟩] 40 (0, 0))) ∧ (wr.heap[q6]? = some (.cells #[.int .i64 0, .int .i64 0, .bool false, .string ⟨#[]⟩, .int .i64 0] 42 (0, 0))) ∧ (wr.heap[q24]? = some (.cells #[.int .i64 ((dpX r).f0), .int .i64 ((dpX r).f1), .string ⟨((dpX r).f2).toArray⟩] 32 (0, 0))) ∧ (wr.ownsRow w.heap.size 32 3 (.slice L nl cl) nl (ls.flatMap cPacket)) ∧ ((L : Option Addr).map (·.block) ≠ some q2) ∧ ((L : Option Addr).map (·.block) ≠ some q4) ∧ ((L : Option Addr).map (·.block) ≠ some q6) ∧ ((L : Option Addr).map (·.block) ≠ some q24) ∧ (∀ b, (L : Option Addr).map (·.block) = some b → w.heap.size ≤ b) ∧ (decs (restU v x) = (l0 ++ (decs r).1, (decs r).2)) ∧ (ls = notIdle l0) ∧ (ls.length = nl) ∧ (4 * l0.length + r.length ≤ 100)) (fun _ wr => lenSt wr q2 3) (⟨restU v x, [], [], 0, none, 0, hs, s2, s4, s5, s6, s7, s8, s9, hB, h_q2, h_q4, h_q6, h_q24, o_l, d_l_q2, d_l_q4, d_l_q6, d_l_q24, g_l, rfl, rfl, rfl, (by simp only [List.length_nil]; omega)⟩) ?_
      intro a38 w29 hI
      obtain ⟨r, l0, ls, nl, L, cl, hs, s2, s4, s5, s6, s7, s8, s9, hB, h_q2, h_q4, h_q6, h_q24, o_l, d_l_q2, d_l_q4, d_l_q6, d_l_q24, g_l, hD, hls, hnl, hbd⟩ := hI
      have mu30 := h_q2
      have hll : nl ≤ l0.length := by rw [← hnl, hls]; exact notIdle_len _
      refine wp_seq_k fun K31 hK31 => ?_
      refine wp_seq_k fun K32 hK32 => ?_
      refine wp_region_lit ?_
      refine q_val rfl rfl ?_
      refine g_move rfl s9 ?_
      intro a39 p39
      have s68 : a39.eval (.tmp 68) = .bool (dpO r) := p39.at hs (by decide)
      replace hs := p39.st hs
      refine wpList_nil ?_
      replace s2 : a39.eval (.tmp 2) = .pointer (some ⟨q2, 0, none⟩) := (p39.ne rfl).trans s2
      replace s4 : a39.eval (.tmp 4) = .pointer (some ⟨q6, 0, none⟩) := (p39.ne rfl).trans s4
      replace s5 : a39.eval (.tmp 5) = .slice none 0 0 := (p39.ne rfl).trans s5
      replace s6 : a39.eval (.tmp 6) = .slice L nl cl := (p39.ne rfl).trans s6
      replace s7 : a39.eval (.tmp 7) = .pointer (some ⟨q24, 0, none⟩) := (p39.ne rfl).trans s7
      replace s8 : a39.eval (.tmp 8) = .int .i64 ((dpN r : Nat) : Int) := (p39.ne rfl).trans s8
      replace s9 : a39.eval (.tmp 9) = .bool (dpO r) := (p39.ne rfl).trans s9
      refine hK32 _ _ ?_
      clear hK32
      cases hok : dpO r
      · replace s9 := s9.trans (congrArg Value.bool hok)
        replace s9 : a39.eval (.tmp 9) = .bool false := s9
        replace s68 := s68.trans (congrArg Value.bool hok)
        replace s68 : a39.eval (.tmp 68) = .bool false := s68
        refine c_false s68 ?_
        refine wp_exit ?_
        refine hK27 _ _ ?_
        clear hK27
        refine wp_seq_k fun K33 hK33 => ?_
        refine wp_seq_k fun K34 hK34 => ?_
        have hDe := decs_end hD hok
        have hD1 : (decs (restU v x)).1 = l0 := by rw [hDe]
        have hD2 : (decs (restU v x)).2 = r := by rw [hDe]
        refine wp_region_lit ?_
        refine q_val rfl rfl ?_
        refine g_field (r := 3) rfl s2 Try.underlying42 rfl (fun w => Try.sizeOf9 w) rfl rfl ?_
        intro a40 p40
        have s88 : a40.eval (.tmp 88) = .pointer (some ⟨q2, 3, none⟩) := p40.at hs (by decide)
        replace hs := p40.st hs
        refine q_val rfl rfl ?_
        refine g_load rfl s88 Try.isAgg9 (box_cell h_q2 rfl) ?_
        intro a41 p41
        have s89 : a41.eval (.tmp 89) = .string ⟨(r).toArray⟩ := p41.at hs (by decide)
        replace hs := p41.st hs
        refine q_val rfl rfl ?_
        refine g_lenS rfl Try.underlying9 s89 ?_
        intro a42 p42
        have s90 : a42.eval (.tmp 90) = .int .i64 (((r).length : Nat) : Int) := p42.at hs (by decide)
        replace hs := p42.st hs
        refine q_val rfl rfl ?_
        refine g_geq rfl s90 rfl ?_
        intro a43 p43
        have s91 : a43.eval (.tmp 91) = .bool (decide (4 ≤ (((r).length : Nat) : Int))) := p43.at hs (by decide)
        replace hs := p43.st hs
        refine q_val rfl rfl ?_
        refine g_move rfl s91 ?_
        intro a44 p44
        have s92 : a44.eval (.tmp 92) = .bool (decide (4 ≤ (((r).length : Nat) : Int))) := p44.at hs (by decide)
        replace hs := p44.st hs
        by_cases hc35 : 4 ≤ (((r).length : Nat) : Int)
        · replace s91 := s91.trans (congrArg Value.bool (decide_eq_true hc35))
          replace s91 : a43.eval (.tmp 91) = .bool true := s91
          replace s92 := s92.trans (congrArg Value.bool (decide_eq_true hc35))
          replace s92 : a44.eval (.tmp 92) = .bool true := s92
          refine q_take rfl rfl s92 rfl ?_
          refine g_field (r := 3) rfl (((p44.ne rfl).trans ((p43.ne rfl).trans ((p42.ne rfl).trans ((p41.ne rfl).trans (p40.ne rfl))))).trans s2) Try.underlying42 rfl (fun w => Try.sizeOf9 w) rfl rfl ?_
          intro a45 p45
          have s93 : a45.eval (.tmp 93) = .pointer (some ⟨q2, 3, none⟩) := p45.at hs (by decide)
          replace hs := p45.st hs
          refine q_take rfl rfl ((p45.ne rfl).trans s92) rfl ?_
          refine g_load rfl s93 Try.isAgg9 (box_cell h_q2 rfl) ?_
          intro a46 p46
          have s94 : a46.eval (.tmp 94) = .string ⟨(r).toArray⟩ := p46.at hs (by decide)
          replace hs := p46.st hs
          refine q_take rfl rfl (((p46.ne rfl).trans (p45.ne rfl)).trans s92) rfl ?_
          refine g_indexS (k := 0) rfl s94 rfl rfl Try.underlying9 (by omega) ?_
          intro a47 p47
          have s95 : a47.eval (.tmp 95) = .int .u8 (nth r ((0 : Nat) : Int)) := p47.at hs (by decide)
          replace hs := p47.st hs
          refine q_take rfl rfl (((p47.ne rfl).trans ((p46.ne rfl).trans (p45.ne rfl))).trans s92) rfl ?_
          refine g_gtrB rfl s95 rfl ?_
          intro a48 p48
          have s96 : a48.eval (.tmp 96) = .bool (decide (15 < nth r ((0 : Nat) : Int))) := p48.at hs (by decide)
          replace hs := p48.st hs
          refine q_take rfl rfl (((p48.ne rfl).trans ((p47.ne rfl).trans ((p46.ne rfl).trans (p45.ne rfl)))).trans s92) rfl ?_
          refine g_move rfl s96 ?_
          intro a49 p49
          have s97 : a49.eval (.tmp 97) = .bool (decide (15 < nth r ((0 : Nat) : Int))) := p49.at hs (by decide)
          replace hs := p49.st hs
          by_cases hc36 : 15 < nth r ((0 : Nat) : Int)
          · replace s96 := s96.trans (congrArg Value.bool (decide_eq_true hc36))
            replace s96 : a48.eval (.tmp 96) = .bool true := s96
            replace s97 := s97.trans (congrArg Value.bool (decide_eq_true hc36))
            replace s97 : a49.eval (.tmp 97) = .bool true := s97
            refine q_skip rfl rfl s97 rfl ?_
            intro a50 p50
            have s98 : a50.eval (.tmp 98) = undef := p50.at hs (by decide)
            replace hs := p50.st hs
            refine q_skip rfl rfl ((p50.ne rfl).trans s97) rfl ?_
            intro a51 p51
            have s99 : a51.eval (.tmp 99) = undef := p51.at hs (by decide)
            replace hs := p51.st hs
            refine q_skip rfl rfl (((p51.ne rfl).trans (p50.ne rfl)).trans s97) rfl ?_
            intro a52 p52
            have s100 : a52.eval (.tmp 100) = undef := p52.at hs (by decide)
            replace hs := p52.st hs
            refine q_skip rfl rfl (((p52.ne rfl).trans ((p51.ne rfl).trans (p50.ne rfl))).trans s97) rfl ?_
            intro a53 p53
            have s101 : a53.eval (.tmp 101) = undef := p53.at hs (by decide)
            replace hs := p53.st hs
            refine q_take rfl rfl (((p53.ne rfl).trans ((p52.ne rfl).trans ((p51.ne rfl).trans ((p50.ne rfl).trans ((p49.ne rfl).trans ((p48.ne rfl).trans ((p47.ne rfl).trans ((p46.ne rfl).trans (p45.ne rfl))))))))).trans s92) rfl ?_
            refine g_pick_t rfl (((p53.ne rfl).trans ((p52.ne rfl).trans ((p51.ne rfl).trans (p50.ne rfl)))).trans s97) rfl ?_
            intro a54 p54
            have s102 : a54.eval (.tmp 102) = .bool true := p54.at hs (by decide)
            replace hs := p54.st hs
            refine q_val rfl rfl ?_
            refine g_pick_t rfl (((p54.ne rfl).trans ((p53.ne rfl).trans ((p52.ne rfl).trans ((p51.ne rfl).trans ((p50.ne rfl).trans ((p49.ne rfl).trans ((p48.ne rfl).trans ((p47.ne rfl).trans ((p46.ne rfl).trans (p45.ne rfl)))))))))).trans s92) s102 ?_
            intro a55 p55
            have s103 : a55.eval (.tmp 103) = .bool true := p55.at hs (by decide)
            replace hs := p55.st hs
            refine wpList_nil ?_
            replace s2 : a55.eval (.tmp 2) = .pointer (some ⟨q2, 0, none⟩) := ((p55.ne rfl).trans ((p54.ne rfl).trans ((p53.ne rfl).trans ((p52.ne rfl).trans ((p51.ne rfl).trans ((p50.ne rfl).trans ((p49.ne rfl).trans ((p48.ne rfl).trans ((p47.ne rfl).trans ((p46.ne rfl).trans ((p45.ne rfl).trans ((p44.ne rfl).trans ((p43.ne rfl).trans ((p42.ne rfl).trans ((p41.ne rfl).trans (p40.ne rfl)))))))))))))))).trans s2
            replace s4 : a55.eval (.tmp 4) = .pointer (some ⟨q6, 0, none⟩) := ((p55.ne rfl).trans ((p54.ne rfl).trans ((p53.ne rfl).trans ((p52.ne rfl).trans ((p51.ne rfl).trans ((p50.ne rfl).trans ((p49.ne rfl).trans ((p48.ne rfl).trans ((p47.ne rfl).trans ((p46.ne rfl).trans ((p45.ne rfl).trans ((p44.ne rfl).trans ((p43.ne rfl).trans ((p42.ne rfl).trans ((p41.ne rfl).trans (p40.ne rfl)))))))))))))))).trans s4
            replace s5 : a55.eval (.tmp 5) = .slice none 0 0 := ((p55.ne rfl).trans ((p54.ne rfl).trans ((p53.ne rfl).trans ((p52.ne rfl).trans ((p51.ne rfl).trans ((p50.ne rfl).trans ((p49.ne rfl).trans ((p48.ne rfl).trans ((p47.ne rfl).trans ((p46.ne rfl).trans ((p45.ne rfl).trans ((p44.ne rfl).trans ((p43.ne rfl).trans ((p42.ne rfl).trans ((p41.ne rfl).trans (p40.ne rfl)))))))))))))))).trans s5
            replace s6 : a55.eval (.tmp 6) = .slice L nl cl := ((p55.ne rfl).trans ((p54.ne rfl).trans ((p53.ne rfl).trans ((p52.ne rfl).trans ((p51.ne rfl).trans ((p50.ne rfl).trans ((p49.ne rfl).trans ((p48.ne rfl).trans ((p47.ne rfl).trans ((p46.ne rfl).trans ((p45.ne rfl).trans ((p44.ne rfl).trans ((p43.ne rfl).trans ((p42.ne rfl).trans ((p41.ne rfl).trans (p40.ne rfl)))))))))))))))).trans s6
            refine hK34 _ _ ?_
            clear hK34
            refine c_true s103 ?_
            refine wp_region_lit ?_
            refine q_val rfl rfl ?_
            refine g_loadB rfl s2 Try.isAgg42 Try.sizeOf42 rfl h_q2 ?_
            intro a56 p56
            have s104 : a56.eval (.tmp 104) = .agg #[.int .i64 v.ch, .int .i64 ((x.f1 + 1) % 256), .bool (syU v x), .string ⟨(r).toArray⟩, .int .i64 v.lost] := p56.at hs (by decide)
            replace hs := p56.st hs
            refine q_val rfl rfl ?_
            refine g_call rfl rfl Try.call61 (arr1 s104) ?_
            refine (losePart_any (u := ⟨v.ch, (x.f1 + 1) % 256, syU v x, r, v.lost⟩) _ (by simp only; omega)).mono ?_
            rintro e w38 ⟨rfl, hb37⟩
            refine ⟨_, rfl, ?_⟩
            replace h_q2 := keep_below h_q2 hb37
            replace h_q4 := keep_below h_q4 hb37
            replace h_q6 := keep_below h_q6 hb37
            replace h_q24 := keep_below h_q24 hb37
            replace o_l := own_below o_l hb37
            replace hB := hB.trans (hb37.mono hB.size)
            clear hb37
            intro a57 p57
            have s105 : a57.eval (.tmp 105) = .agg #[.int .i64 ((loseU (⟨v.ch, (x.f1 + 1) % 256, syU v x, r, v.lost⟩ : EUnp)).ch), .int .i64 ((loseU (⟨v.ch, (x.f1 + 1) % 256, syU v x, r, v.lost⟩ : EUnp)).nx), .bool ((loseU (⟨v.ch, (x.f1 + 1) % 256, syU v x, r, v.lost⟩ : EUnp)).sy), .string ⟨((loseU (⟨v.ch, (x.f1 + 1) % 256, syU v x, r, v.lost⟩ : EUnp)).rest).toArray⟩, .int .i64 ((loseU (⟨v.ch, (x.f1 + 1) % 256, syU v x, r, v.lost⟩ : EUnp)).lost)] := p57.at hs (by decide)
            replace hs := p57.st hs
            refine q_eff rfl rfl ?_
            refine g_storeB rfl (((p57.ne rfl).trans (p56.ne rfl)).trans s2) s105 Try.sizeOf42 rfl rfl h_q2 rfl ?_
            intro w39 W_w39
            replace h_q2 := W_w39.here
            replace h_q4 := keep_wrote h_q4 W_w39 n_q2_q4
            replace h_q6 := keep_wrote h_q6 W_w39 n_q2_q6
            replace h_q24 := keep_wrote h_q24 W_w39 n_q2_q24
            replace o_l := own_wrote o_l W_w39 d_l_q2
            replace hB := below_wrote hB hB.size W_w39 g_q2.le
            clear W_w39
            refine wpList_nil ?_
            replace s2 : a57.eval (.tmp 2) = .pointer (some ⟨q2, 0, none⟩) := ((p57.ne rfl).trans (p56.ne rfl)).trans s2
            replace s4 : a57.eval (.tmp 4) = .pointer (some ⟨q6, 0, none⟩) := ((p57.ne rfl).trans (p56.ne rfl)).trans s4
            replace s5 : a57.eval (.tmp 5) = .slice none 0 0 := ((p57.ne rfl).trans (p56.ne rfl)).trans s5
            replace s6 : a57.eval (.tmp 6) = .slice L nl cl := ((p57.ne rfl).trans (p56.ne rfl)).trans s6
            refine hK33 _ _ ?_
            clear hK33
            refine wp_seq_k fun K40 hK40 => ?_
            refine wp_region_lit ?_
            refine q_val rfl rfl ?_
            refine g_loadB rfl s2 Try.isAgg42 Try.sizeOf42 rfl h_q2 ?_
            intro a58 p58
            have s106 : a58.eval (.tmp 106) = .agg #[.int .i64 ((loseU (⟨v.ch, (x.f1 + 1) % 256, syU v x, r, v.lost⟩ : EUnp)).ch), .int .i64 ((loseU (⟨v.ch, (x.f1 + 1) % 256, syU v x, r, v.lost⟩ : EUnp)).nx), .bool ((loseU (⟨v.ch, (x.f1 + 1) % 256, syU v x, r, v.lost⟩ : EUnp)).sy), .string ⟨((loseU (⟨v.ch, (x.f1 + 1) % 256, syU v x, r, v.lost⟩ : EUnp)).rest).toArray⟩, .int .i64 ((loseU (⟨v.ch, (x.f1 + 1) % 256, syU v x, r, v.lost⟩ : EUnp)).lost)] := p58.at hs (by decide)
            replace hs := p58.st hs
            refine q_val rfl rfl ?_
            refine g_move rfl ((p58.ne rfl).trans s6) ?_
            intro a59 p59
            have s107 : a59.eval (.tmp 107) = .slice L nl cl := p59.at hs (by decide)
            replace hs := p59.st hs
            refine q_eff rfl rfl ?_
            refine g_storeB rfl (((p59.ne rfl).trans (p58.ne rfl)).trans s4) ((p59.ne rfl).trans s106) Try.sizeOf42 rfl rfl h_q6 rfl ?_
            intro w41 W_w41
            replace h_q2 := keep_wrote h_q2 W_w41 n_q6_q2
            replace h_q4 := keep_wrote h_q4 W_w41 n_q6_q4
            replace h_q6 := W_w41.here
            replace h_q24 := keep_wrote h_q24 W_w41 n_q6_q24
            replace o_l := own_wrote o_l W_w41 d_l_q6
            replace hB := below_wrote hB hB.size W_w41 g_q6.le
            clear W_w41
            refine q_val rfl rfl ?_
            refine g_assign rfl s107 ?_
            intro a60 p60
            have s5 : a60.eval (.tmp 5) = .slice L nl cl := p60.at hs (by decide)
            replace hs := p60.st hs
            refine wpList_nil ?_
            replace s4 : a60.eval (.tmp 4) = .pointer (some ⟨q6, 0, none⟩) := ((p60.ne rfl).trans ((p59.ne rfl).trans (p58.ne rfl))).trans s4
            refine hK40 _ _ ?_
            clear hK40
            refine wp_ret ?_
            try dsimp only [Exit.then, Exit.inBlock]
            refine ret2 hs Try.results37 (res_cell s4 h_q6 Try.isAgg42 Try.sizeOf42 rfl) (res_tmp s5) ?_
            have hbad : badH (decs (restU v x)).2 = true := by rw [hD2]; exact badH_1 hc35 hc36
            have e1 : pushU u x = loseU (preU v x r) := by unfold pushU; rw [← hv, core_bad hbad, hD2]
            have e2 : pushL u x = ls := by unfold pushL; rw [← hv, hD1, hls]
            subst hnl
            rw [e1, e2]
            exact ⟨_, _, rfl, o_l, hB⟩
          · replace s96 := s96.trans (congrArg Value.bool (decide_eq_false hc36))
            replace s96 : a48.eval (.tmp 96) = .bool false := s96
            replace s97 := s97.trans (congrArg Value.bool (decide_eq_false hc36))
            replace s97 : a49.eval (.tmp 97) = .bool false := s97
            refine q_take rfl rfl s97 rfl ?_
            refine g_field (r := 3) rfl (((p49.ne rfl).trans ((p48.ne rfl).trans ((p47.ne rfl).trans ((p46.ne rfl).trans ((p45.ne rfl).trans ((p44.ne rfl).trans ((p43.ne rfl).trans ((p42.ne rfl).trans ((p41.ne rfl).trans (p40.ne rfl)))))))))).trans s2) Try.underlying42 rfl (fun w => Try.sizeOf9 w) rfl rfl ?_
            intro a50 p50
            have s98 : a50.eval (.tmp 98) = .pointer (some ⟨q2, 3, none⟩) := p50.at hs (by decide)
            replace hs := p50.st hs
            refine q_take rfl rfl ((p50.ne rfl).trans s97) rfl ?_
            refine g_load rfl s98 Try.isAgg9 (box_cell h_q2 rfl) ?_
            intro a51 p51
            have s99 : a51.eval (.tmp 99) = .string ⟨(r).toArray⟩ := p51.at hs (by decide)
            replace hs := p51.st hs
            refine q_take rfl rfl (((p51.ne rfl).trans (p50.ne rfl)).trans s97) rfl ?_
            refine g_indexS (k := 3) rfl s99 rfl rfl Try.underlying9 (by omega) ?_
            intro a52 p52
            have s100 : a52.eval (.tmp 100) = .int .u8 (nth r ((3 : Nat) : Int)) := p52.at hs (by decide)
            replace hs := p52.st hs
            refine q_take rfl rfl (((p52.ne rfl).trans ((p51.ne rfl).trans (p50.ne rfl))).trans s97) rfl ?_
            refine g_gtrB rfl s100 rfl ?_
            intro a53 p53
            have s101 : a53.eval (.tmp 101) = .bool (decide (40 < nth r ((3 : Nat) : Int))) := p53.at hs (by decide)
            replace hs := p53.st hs
            refine q_take rfl rfl (((p53.ne rfl).trans ((p52.ne rfl).trans ((p51.ne rfl).trans ((p50.ne rfl).trans ((p49.ne rfl).trans ((p48.ne rfl).trans ((p47.ne rfl).trans ((p46.ne rfl).trans (p45.ne rfl))))))))).trans s92) rfl ?_
            refine g_pick_f rfl (((p53.ne rfl).trans ((p52.ne rfl).trans ((p51.ne rfl).trans (p50.ne rfl)))).trans s97) s101 ?_
            intro a54 p54
            have s102 : a54.eval (.tmp 102) = .bool (decide (40 < nth r ((3 : Nat) : Int))) := p54.at hs (by decide)
            replace hs := p54.st hs
            refine q_val rfl rfl ?_
            refine g_pick_t rfl (((p54.ne rfl).trans ((p53.ne rfl).trans ((p52.ne rfl).trans ((p51.ne rfl).trans ((p50.ne rfl).trans ((p49.ne rfl).trans ((p48.ne rfl).trans ((p47.ne rfl).trans ((p46.ne rfl).trans (p45.ne rfl)))))))))).trans s92) s102 ?_
            intro a55 p55
            have s103 : a55.eval (.tmp 103) = .bool (decide (40 < nth r ((3 : Nat) : Int))) := p55.at hs (by decide)
            replace hs := p55.st hs
            refine wpList_nil ?_
            replace s2 : a55.eval (.tmp 2) = .pointer (some ⟨q2, 0, none⟩) := ((p55.ne rfl).trans ((p54.ne rfl).trans ((p53.ne rfl).trans ((p52.ne rfl).trans ((p51.ne rfl).trans ((p50.ne rfl).trans ((p49.ne rfl).trans ((p48.ne rfl).trans ((p47.ne rfl).trans ((p46.ne rfl).trans ((p45.ne rfl).trans ((p44.ne rfl).trans ((p43.ne rfl).trans ((p42.ne rfl).trans ((p41.ne rfl).trans (p40.ne rfl)))))))))))))))).trans s2
            replace s4 : a55.eval (.tmp 4) = .pointer (some ⟨q6, 0, none⟩) := ((p55.ne rfl).trans ((p54.ne rfl).trans ((p53.ne rfl).trans ((p52.ne rfl).trans ((p51.ne rfl).trans ((p50.ne rfl).trans ((p49.ne rfl).trans ((p48.ne rfl).trans ((p47.ne rfl).trans ((p46.ne rfl).trans ((p45.ne rfl).trans ((p44.ne rfl).trans ((p43.ne rfl).trans ((p42.ne rfl).trans ((p41.ne rfl).trans (p40.ne rfl)))))))))))))))).trans s4
            replace s5 : a55.eval (.tmp 5) = .slice none 0 0 := ((p55.ne rfl).trans ((p54.ne rfl).trans ((p53.ne rfl).trans ((p52.ne rfl).trans ((p51.ne rfl).trans ((p50.ne rfl).trans ((p49.ne rfl).trans ((p48.ne rfl).trans ((p47.ne rfl).trans ((p46.ne rfl).trans ((p45.ne rfl).trans ((p44.ne rfl).trans ((p43.ne rfl).trans ((p42.ne rfl).trans ((p41.ne rfl).trans (p40.ne rfl)))))))))))))))).trans s5
            replace s6 : a55.eval (.tmp 6) = .slice L nl cl := ((p55.ne rfl).trans ((p54.ne rfl).trans ((p53.ne rfl).trans ((p52.ne rfl).trans ((p51.ne rfl).trans ((p50.ne rfl).trans ((p49.ne rfl).trans ((p48.ne rfl).trans ((p47.ne rfl).trans ((p46.ne rfl).trans ((p45.ne rfl).trans ((p44.ne rfl).trans ((p43.ne rfl).trans ((p42.ne rfl).trans ((p41.ne rfl).trans (p40.ne rfl)))))))))))))))).trans s6
            refine hK34 _ _ ?_
            clear hK34
            by_cases hc42 : 40 < nth r ((3 : Nat) : Int)
            · replace s103 := s103.trans (congrArg Value.bool (decide_eq_true hc42))
              replace s103 : a55.eval (.tmp 103) = .bool true := s103
              refine c_true s103 ?_
              refine wp_region_lit ?_
              refine q_val rfl rfl ?_
              refine g_loadB rfl s2 Try.isAgg42 Try.sizeOf42 rfl h_q2 ?_
              intro a56 p56
              have s104 : a56.eval (.tmp 104) = .agg #[.int .i64 v.ch, .int .i64 ((x.f1 + 1) % 256), .bool (syU v x), .string ⟨(r).toArray⟩, .int .i64 v.lost] := p56.at hs (by decide)
              replace hs := p56.st hs
              refine q_val rfl rfl ?_
              refine g_call rfl rfl Try.call61 (arr1 s104) ?_
              refine (losePart_any (u := ⟨v.ch, (x.f1 + 1) % 256, syU v x, r, v.lost⟩) _ (by simp only; omega)).mono ?_
              rintro e w44 ⟨rfl, hb43⟩
              refine ⟨_, rfl, ?_⟩
              replace h_q2 := keep_below h_q2 hb43
              replace h_q4 := keep_below h_q4 hb43
              replace h_q6 := keep_below h_q6 hb43
              replace h_q24 := keep_below h_q24 hb43
              replace o_l := own_below o_l hb43
              replace hB := hB.trans (hb43.mono hB.size)
              clear hb43
              intro a57 p57
              have s105 : a57.eval (.tmp 105) = .agg #[.int .i64 ((loseU (⟨v.ch, (x.f1 + 1) % 256, syU v x, r, v.lost⟩ : EUnp)).ch), .int .i64 ((loseU (⟨v.ch, (x.f1 + 1) % 256, syU v x, r, v.lost⟩ : EUnp)).nx), .bool ((loseU (⟨v.ch, (x.f1 + 1) % 256, syU v x, r, v.lost⟩ : EUnp)).sy), .string ⟨((loseU (⟨v.ch, (x.f1 + 1) % 256, syU v x, r, v.lost⟩ : EUnp)).rest).toArray⟩, .int .i64 ((loseU (⟨v.ch, (x.f1 + 1) % 256, syU v x, r, v.lost⟩ : EUnp)).lost)] := p57.at hs (by decide)
              replace hs := p57.st hs
              refine q_eff rfl rfl ?_
              refine g_storeB rfl (((p57.ne rfl).trans (p56.ne rfl)).trans s2) s105 Try.sizeOf42 rfl rfl h_q2 rfl ?_
              intro w45 W_w45
              replace h_q2 := W_w45.here
              replace h_q4 := keep_wrote h_q4 W_w45 n_q2_q4
              replace h_q6 := keep_wrote h_q6 W_w45 n_q2_q6
              replace h_q24 := keep_wrote h_q24 W_w45 n_q2_q24
              replace o_l := own_wrote o_l W_w45 d_l_q2
              replace hB := below_wrote hB hB.size W_w45 g_q2.le
              clear W_w45
              refine wpList_nil ?_
              replace s2 : a57.eval (.tmp 2) = .pointer (some ⟨q2, 0, none⟩) := ((p57.ne rfl).trans (p56.ne rfl)).trans s2
              replace s4 : a57.eval (.tmp 4) = .pointer (some ⟨q6, 0, none⟩) := ((p57.ne rfl).trans (p56.ne rfl)).trans s4
              replace s5 : a57.eval (.tmp 5) = .slice none 0 0 := ((p57.ne rfl).trans (p56.ne rfl)).trans s5
              replace s6 : a57.eval (.tmp 6) = .slice L nl cl := ((p57.ne rfl).trans (p56.ne rfl)).trans s6
              refine hK33 _ _ ?_
              clear hK33
              refine wp_seq_k fun K46 hK46 => ?_
              refine wp_region_lit ?_
              refine q_val rfl rfl ?_
              refine g_loadB rfl s2 Try.isAgg42 Try.sizeOf42 rfl h_q2 ?_
              intro a58 p58
              have s106 : a58.eval (.tmp 106) = .agg #[.int .i64 ((loseU (⟨v.ch, (x.f1 + 1) % 256, syU v x, r, v.lost⟩ : EUnp)).ch), .int .i64 ((loseU (⟨v.ch, (x.f1 + 1) % 256, syU v x, r, v.lost⟩ : EUnp)).nx), .bool ((loseU (⟨v.ch, (x.f1 + 1) % 256, syU v x, r, v.lost⟩ : EUnp)).sy), .string ⟨((loseU (⟨v.ch, (x.f1 + 1) % 256, syU v x, r, v.lost⟩ : EUnp)).rest).toArray⟩, .int .i64 ((loseU (⟨v.ch, (x.f1 + 1) % 256, syU v x, r, v.lost⟩ : EUnp)).lost)] := p58.at hs (by decide)
              replace hs := p58.st hs
              refine q_val rfl rfl ?_
              refine g_move rfl ((p58.ne rfl).trans s6) ?_
              intro a59 p59
              have s107 : a59.eval (.tmp 107) = .slice L nl cl := p59.at hs (by decide)
              replace hs := p59.st hs
              refine q_eff rfl rfl ?_
              refine g_storeB rfl (((p59.ne rfl).trans (p58.ne rfl)).trans s4) ((p59.ne rfl).trans s106) Try.sizeOf42 rfl rfl h_q6 rfl ?_
              intro w47 W_w47
              replace h_q2 := keep_wrote h_q2 W_w47 n_q6_q2
              replace h_q4 := keep_wrote h_q4 W_w47 n_q6_q4
              replace h_q6 := W_w47.here
              replace h_q24 := keep_wrote h_q24 W_w47 n_q6_q24
              replace o_l := own_wrote o_l W_w47 d_l_q6
              replace hB := below_wrote hB hB.size W_w47 g_q6.le
              clear W_w47
              refine q_val rfl rfl ?_
              refine g_assign rfl s107 ?_
              intro a60 p60
              have s5 : a60.eval (.tmp 5) = .slice L nl cl := p60.at hs (by decide)
              replace hs := p60.st hs
              refine wpList_nil ?_
              replace s4 : a60.eval (.tmp 4) = .pointer (some ⟨q6, 0, none⟩) := ((p60.ne rfl).trans ((p59.ne rfl).trans (p58.ne rfl))).trans s4
              refine hK46 _ _ ?_
              clear hK46
              refine wp_ret ?_
              try dsimp only [Exit.then, Exit.inBlock]
              refine ret2 hs Try.results37 (res_cell s4 h_q6 Try.isAgg42 Try.sizeOf42 rfl) (res_tmp s5) ?_
              have hbad : badH (decs (restU v x)).2 = true := by rw [hD2]; exact badH_2 hc35 hc36 hc42
              have e1 : pushU u x = loseU (preU v x r) := by unfold pushU; rw [← hv, core_bad hbad, hD2]
              have e2 : pushL u x = ls := by unfold pushL; rw [← hv, hD1, hls]
              subst hnl
              rw [e1, e2]
              exact ⟨_, _, rfl, o_l, hB⟩
            · replace s103 := s103.trans (congrArg Value.bool (decide_eq_false hc42))
              replace s103 : a55.eval (.tmp 103) = .bool false := s103
              refine c_false s103 ?_
              refine wp_skip ?_
              refine hK33 _ _ ?_
              clear hK33
              refine wp_seq_k fun K48 hK48 => ?_
              refine wp_region_lit ?_
              refine q_val rfl rfl ?_
              refine g_loadB rfl s2 Try.isAgg42 Try.sizeOf42 rfl h_q2 ?_
              intro a56 p56
              have s106 : a56.eval (.tmp 106) = .agg #[.int .i64 v.ch, .int .i64 ((x.f1 + 1) % 256), .bool (syU v x), .string ⟨(r).toArray⟩, .int .i64 v.lost] := p56.at hs (by decide)
              replace hs := p56.st hs
              refine q_val rfl rfl ?_
              refine g_move rfl ((p56.ne rfl).trans s6) ?_
              intro a57 p57
              have s107 : a57.eval (.tmp 107) = .slice L nl cl := p57.at hs (by decide)
              replace hs := p57.st hs
              refine q_eff rfl rfl ?_
              refine g_storeB rfl (((p57.ne rfl).trans (p56.ne rfl)).trans s4) ((p57.ne rfl).trans s106) Try.sizeOf42 rfl rfl h_q6 rfl ?_
              intro w49 W_w49
              replace h_q2 := keep_wrote h_q2 W_w49 n_q6_q2
              replace h_q4 := keep_wrote h_q4 W_w49 n_q6_q4
              replace h_q6 := W_w49.here
              replace h_q24 := keep_wrote h_q24 W_w49 n_q6_q24
              replace o_l := own_wrote o_l W_w49 d_l_q6
              replace hB := below_wrote hB hB.size W_w49 g_q6.le
              clear W_w49
              refine q_val rfl rfl ?_
              refine g_assign rfl s107 ?_
              intro a58 p58
              have s5 : a58.eval (.tmp 5) = .slice L nl cl := p58.at hs (by decide)
              replace hs := p58.st hs
              refine wpList_nil ?_
              replace s4 : a58.eval (.tmp 4) = .pointer (some ⟨q6, 0, none⟩) := ((p58.ne rfl).trans ((p57.ne rfl).trans (p56.ne rfl))).trans s4
              refine hK48 _ _ ?_
              clear hK48
              refine wp_ret ?_
              try dsimp only [Exit.then, Exit.inBlock]
              refine ret2 hs Try.results37 (res_cell s4 h_q6 Try.isAgg42 Try.sizeOf42 rfl) (res_tmp s5) ?_
              have hbad : badH (decs (restU v x)).2 = false := by rw [hD2]; exact badH_no hc35 hc36 hc42
              have e1 : pushU u x = preU v x r := by unfold pushU; rw [← hv, core_good hbad, hD2]
              have e2 : pushL u x = ls := by unfold pushL; rw [← hv, hD1, hls]
              subst hnl
              rw [e1, e2]
              exact ⟨_, _, rfl, o_l, hB⟩
        · replace s91 := s91.trans (congrArg Value.bool (decide_eq_false hc35))
          replace s91 : a43.eval (.tmp 91) = .bool false := s91
          replace s92 := s92.trans (congrArg Value.bool (decide_eq_false hc35))
          replace s92 : a44.eval (.tmp 92) = .bool false := s92
          refine q_skip rfl rfl s92 rfl ?_
          intro a45 p45
          have s93 : a45.eval (.tmp 93) = undef := p45.at hs (by decide)
          replace hs := p45.st hs
          refine q_skip rfl rfl ((p45.ne rfl).trans s92) rfl ?_
          intro a46 p46
          have s94 : a46.eval (.tmp 94) = undef := p46.at hs (by decide)
          replace hs := p46.st hs
          refine q_skip rfl rfl (((p46.ne rfl).trans (p45.ne rfl)).trans s92) rfl ?_
          intro a47 p47
          have s95 : a47.eval (.tmp 95) = undef := p47.at hs (by decide)
          replace hs := p47.st hs
          refine q_skip rfl rfl (((p47.ne rfl).trans ((p46.ne rfl).trans (p45.ne rfl))).trans s92) rfl ?_
          intro a48 p48
          have s96 : a48.eval (.tmp 96) = undef := p48.at hs (by decide)
          replace hs := p48.st hs
          refine q_skip rfl rfl (((p48.ne rfl).trans ((p47.ne rfl).trans ((p46.ne rfl).trans (p45.ne rfl)))).trans s92) rfl ?_
          intro a49 p49
          have s97 : a49.eval (.tmp 97) = undef := p49.at hs (by decide)
          replace hs := p49.st hs
          refine q_skipU rfl rfl s97 rfl ?_
          intro a50 p50
          have s98 : a50.eval (.tmp 98) = undef := p50.at hs (by decide)
          replace hs := p50.st hs
          refine q_skipU rfl rfl ((p50.ne rfl).trans s97) rfl ?_
          intro a51 p51
          have s99 : a51.eval (.tmp 99) = undef := p51.at hs (by decide)
          replace hs := p51.st hs
          refine q_skipU rfl rfl (((p51.ne rfl).trans (p50.ne rfl)).trans s97) rfl ?_
          intro a52 p52
          have s100 : a52.eval (.tmp 100) = undef := p52.at hs (by decide)
          replace hs := p52.st hs
          refine q_skipU rfl rfl (((p52.ne rfl).trans ((p51.ne rfl).trans (p50.ne rfl))).trans s97) rfl ?_
          intro a53 p53
          have s101 : a53.eval (.tmp 101) = undef := p53.at hs (by decide)
          replace hs := p53.st hs
          refine q_skip rfl rfl (((p53.ne rfl).trans ((p52.ne rfl).trans ((p51.ne rfl).trans ((p50.ne rfl).trans ((p49.ne rfl).trans ((p48.ne rfl).trans ((p47.ne rfl).trans ((p46.ne rfl).trans (p45.ne rfl))))))))).trans s92) rfl ?_
          intro a54 p54
          have s102 : a54.eval (.tmp 102) = undef := p54.at hs (by decide)
          replace hs := p54.st hs
          refine q_val rfl rfl ?_
          refine g_pick_f rfl (((p54.ne rfl).trans ((p53.ne rfl).trans ((p52.ne rfl).trans ((p51.ne rfl).trans ((p50.ne rfl).trans ((p49.ne rfl).trans ((p48.ne rfl).trans ((p47.ne rfl).trans ((p46.ne rfl).trans (p45.ne rfl)))))))))).trans s92) rfl ?_
          intro a55 p55
          have s103 : a55.eval (.tmp 103) = .bool false := p55.at hs (by decide)
          replace hs := p55.st hs
          refine wpList_nil ?_
          replace s2 : a55.eval (.tmp 2) = .pointer (some ⟨q2, 0, none⟩) := ((p55.ne rfl).trans ((p54.ne rfl).trans ((p53.ne rfl).trans ((p52.ne rfl).trans ((p51.ne rfl).trans ((p50.ne rfl).trans ((p49.ne rfl).trans ((p48.ne rfl).trans ((p47.ne rfl).trans ((p46.ne rfl).trans ((p45.ne rfl).trans ((p44.ne rfl).trans ((p43.ne rfl).trans ((p42.ne rfl).trans ((p41.ne rfl).trans (p40.ne rfl)))))))))))))))).trans s2
          replace s4 : a55.eval (.tmp 4) = .pointer (some ⟨q6, 0, none⟩) := ((p55.ne rfl).trans ((p54.ne rfl).trans ((p53.ne rfl).trans ((p52.ne rfl).trans ((p51.ne rfl).trans ((p50.ne rfl).trans ((p49.ne rfl).trans ((p48.ne rfl).trans ((p47.ne rfl).trans ((p46.ne rfl).trans ((p45.ne rfl).trans ((p44.ne rfl).trans ((p43.ne rfl).trans ((p42.ne rfl).trans ((p41.ne rfl).trans (p40.ne rfl)))))))))))))))).trans s4
          replace s5 : a55.eval (.tmp 5) = .slice none 0 0 := ((p55.ne rfl).trans ((p54.ne rfl).trans ((p53.ne rfl).trans ((p52.ne rfl).trans ((p51.ne rfl).trans ((p50.ne rfl).trans ((p49.ne rfl).trans ((p48.ne rfl).trans ((p47.ne rfl).trans ((p46.ne rfl).trans ((p45.ne rfl).trans ((p44.ne rfl).trans ((p43.ne rfl).trans ((p42.ne rfl).trans ((p41.ne rfl).trans (p40.ne rfl)))))))))))))))).trans s5
          replace s6 : a55.eval (.tmp 6) = .slice L nl cl := ((p55.ne rfl).trans ((p54.ne rfl).trans ((p53.ne rfl).trans ((p52.ne rfl).trans ((p51.ne rfl).trans ((p50.ne rfl).trans ((p49.ne rfl).trans ((p48.ne rfl).trans ((p47.ne rfl).trans ((p46.ne rfl).trans ((p45.ne rfl).trans ((p44.ne rfl).trans ((p43.ne rfl).trans ((p42.ne rfl).trans ((p41.ne rfl).trans (p40.ne rfl)))))))))))))))).trans s6
          refine hK34 _ _ ?_
          clear hK34
          refine c_false s103 ?_
          refine wp_skip ?_
          refine hK33 _ _ ?_
          clear hK33
          refine wp_seq_k fun K50 hK50 => ?_
          refine wp_region_lit ?_
          refine q_val rfl rfl ?_
          refine g_loadB rfl s2 Try.isAgg42 Try.sizeOf42 rfl h_q2 ?_
          intro a56 p56
          have s106 : a56.eval (.tmp 106) = .agg #[.int .i64 v.ch, .int .i64 ((x.f1 + 1) % 256), .bool (syU v x), .string ⟨(r).toArray⟩, .int .i64 v.lost] := p56.at hs (by decide)
          replace hs := p56.st hs
          refine q_val rfl rfl ?_
          refine g_move rfl ((p56.ne rfl).trans s6) ?_
          intro a57 p57
          have s107 : a57.eval (.tmp 107) = .slice L nl cl := p57.at hs (by decide)
          replace hs := p57.st hs
          refine q_eff rfl rfl ?_
          refine g_storeB rfl (((p57.ne rfl).trans (p56.ne rfl)).trans s4) ((p57.ne rfl).trans s106) Try.sizeOf42 rfl rfl h_q6 rfl ?_
          intro w51 W_w51
          replace h_q2 := keep_wrote h_q2 W_w51 n_q6_q2
          replace h_q4 := keep_wrote h_q4 W_w51 n_q6_q4
          replace h_q6 := W_w51.here
          replace h_q24 := keep_wrote h_q24 W_w51 n_q6_q24
          replace o_l := own_wrote o_l W_w51 d_l_q6
          replace hB := below_wrote hB hB.size W_w51 g_q6.le
          clear W_w51
          refine q_val rfl rfl ?_
          refine g_assign rfl s107 ?_
          intro a58 p58
          have s5 : a58.eval (.tmp 5) = .slice L nl cl := p58.at hs (by decide)
          replace hs := p58.st hs
          refine wpList_nil ?_
          replace s4 : a58.eval (.tmp 4) = .pointer (some ⟨q6, 0, none⟩) := ((p58.ne rfl).trans ((p57.ne rfl).trans (p56.ne rfl))).trans s4
          refine hK50 _ _ ?_
          clear hK50
          refine wp_ret ?_
          try dsimp only [Exit.then, Exit.inBlock]
          refine ret2 hs Try.results37 (res_cell s4 h_q6 Try.isAgg42 Try.sizeOf42 rfl) (res_tmp s5) ?_
          have hbad : badH (decs (restU v x)).2 = false := by rw [hD2]; exact badH_short hc35
          have e1 : pushU u x = preU v x r := by unfold pushU; rw [← hv, core_good hbad, hD2]
          have e2 : pushL u x = ls := by unfold pushL; rw [← hv, hD1, hls]
          subst hnl
          rw [e1, e2]
          exact ⟨_, _, rfl, o_l, hB⟩
      · replace s9 := s9.trans (congrArg Value.bool hok)
        replace s9 : a39.eval (.tmp 9) = .bool true := s9
        replace s68 := s68.trans (congrArg Value.bool hok)
        replace s68 : a39.eval (.tmp 68) = .bool true := s68
        refine c_true s68 ?_
        refine wp_skip ?_
        refine hK31 _ _ ?_
        clear hK31
        refine wp_block ?_
        refine wp_seq_k fun K52 hK52 => ?_
        obtain ⟨hd1, hd2, hd3⟩ := dpO_true hok
        have hk2 := pkOk_parts (dec0_ok hd1)
        refine wp_region_lit ?_
        refine q_val rfl rfl ?_
        refine g_field (r := 3) rfl s2 Try.underlying42 rfl (fun w => Try.sizeOf9 w) rfl rfl ?_
        intro a40 p40
        have s69 : a40.eval (.tmp 69) = .pointer (some ⟨q2, 3, none⟩) := p40.at hs (by decide)
        replace hs := p40.st hs
        refine q_val rfl rfl ?_
        refine g_load rfl s69 Try.isAgg9 (box_cell h_q2 rfl) ?_
        intro a41 p41
        have s70 : a41.eval (.tmp 70) = .string ⟨(r).toArray⟩ := p41.at hs (by decide)
        replace hs := p41.st hs
        refine q_val rfl rfl ?_
        refine g_move rfl (((p41.ne rfl).trans (p40.ne rfl)).trans s8) ?_
        intro a42 p42
        have s71 : a42.eval (.tmp 71) = .int .i64 ((dpN r : Nat) : Int) := p42.at hs (by decide)
        replace hs := p42.st hs
        refine q_val rfl rfl ?_
        refine g_tailS (k := dpN r) rfl ((p42.ne rfl).trans s70) s71 rfl Try.underlying9 (by omega) ?_
        intro a43 p43
        have s72 : a43.eval (.tmp 72) = .string ⟨(r.drop (dpN r)).toArray⟩ := p43.at hs (by decide)
        replace hs := p43.st hs
        refine q_val rfl rfl ?_
        refine g_field (r := 3) rfl (((p43.ne rfl).trans ((p42.ne rfl).trans ((p41.ne rfl).trans (p40.ne rfl)))).trans s2) Try.underlying42 rfl (fun w => Try.sizeOf9 w) rfl rfl ?_
        intro a44 p44
        have s73 : a44.eval (.tmp 73) = .pointer (some ⟨q2, 3, none⟩) := p44.at hs (by decide)
        replace hs := p44.st hs
        refine q_eff rfl rfl ?_
        refine g_store (cs' := #[.int .i64 v.ch, .int .i64 ((x.f1 + 1) % 256), .bool (syU v x), .string ⟨(r.drop (dpN r)).toArray⟩, .int .i64 v.lost]) rfl s73 ((p44.ne rfl).trans s72) Try.sizeOf9 rfl h_q2 (Nat.le_of_ble_eq_true rfl) rfl ?_
        intro w53 W_w53
        replace h_q2 := W_w53.here
        replace h_q4 := keep_wrote h_q4 W_w53 n_q2_q4
        replace h_q6 := keep_wrote h_q6 W_w53 n_q2_q6
        replace h_q24 := keep_wrote h_q24 W_w53 n_q2_q24
        replace o_l := own_wrote o_l W_w53 d_l_q2
        replace hB := below_wrote hB hB.size W_w53 g_q2.le
        clear W_w53
        refine wpList_nil ?_
        replace s2 : a44.eval (.tmp 2) = .pointer (some ⟨q2, 0, none⟩) := ((p44.ne rfl).trans ((p43.ne rfl).trans ((p42.ne rfl).trans ((p41.ne rfl).trans (p40.ne rfl))))).trans s2
        replace s4 : a44.eval (.tmp 4) = .pointer (some ⟨q6, 0, none⟩) := ((p44.ne rfl).trans ((p43.ne rfl).trans ((p42.ne rfl).trans ((p41.ne rfl).trans (p40.ne rfl))))).trans s4
        replace s5 : a44.eval (.tmp 5) = .slice none 0 0 := ((p44.ne rfl).trans ((p43.ne rfl).trans ((p42.ne rfl).trans ((p41.ne rfl).trans (p40.ne rfl))))).trans s5
        replace s6 : a44.eval (.tmp 6) = .slice L nl cl := ((p44.ne rfl).trans ((p43.ne rfl).trans ((p42.ne rfl).trans ((p41.ne rfl).trans (p40.ne rfl))))).trans s6
        replace s7 : a44.eval (.tmp 7) = .pointer (some ⟨q24, 0, none⟩) := ((p44.ne rfl).trans ((p43.ne rfl).trans ((p42.ne rfl).trans ((p41.ne rfl).trans (p40.ne rfl))))).trans s7
        replace s8 : a44.eval (.tmp 8) = .int .i64 ((dpN r : Nat) : Int) := ((p44.ne rfl).trans ((p43.ne rfl).trans ((p42.ne rfl).trans ((p41.ne rfl).trans (p40.ne rfl))))).trans s8
        replace s9 : a44.eval (.tmp 9) = .bool true := ((p44.ne rfl).trans ((p43.ne rfl).trans ((p42.ne rfl).trans ((p41.ne rfl).trans (p40.ne rfl))))).trans s9
        replace s68 : a44.eval (.tmp 68) = .bool true := ((p44.ne rfl).trans ((p43.ne rfl).trans ((p42.ne rfl).trans ((p41.ne rfl).trans (p40.ne rfl))))).trans s68
        refine hK52 _ _ ?_
        clear hK52
        refine wp_seq_k fun K54 hK54 => ?_
        refine wp_seq_k fun K55 hK55 => ?_
        refine wp_region_lit ?_
        refine q_val rfl rfl ?_
        refine g_field (r := 0) rfl s7 Try.underlying32 rfl (fun w => Try.sizeOf3 w) rfl rfl ?_
        intro a45 p45
        have s74 : a45.eval (.tmp 74) = .pointer (some ⟨q24, 0, none⟩) := p45.at hs (by decide)
        replace hs := p45.st hs
        refine q_val rfl rfl ?_
        refine g_load rfl s74 Try.isAgg3 (box_cell h_q24 rfl) ?_
        intro a46 p46
        have s75 : a46.eval (.tmp 75) = .int .i64 ((dpX r).f0) := p46.at hs (by decide)
        replace hs := p46.st hs
        refine q_val rfl rfl ?_
        refine g_neq rfl s75 rfl ?_
        intro a47 p47
        have s76 : a47.eval (.tmp 76) = .bool (!decide ((dpX r).f0 = 15)) := p47.at hs (by decide)
        replace hs := p47.st hs
        refine wpList_nil ?_
        replace s2 : a47.eval (.tmp 2) = .pointer (some ⟨q2, 0, none⟩) := ((p47.ne rfl).trans ((p46.ne rfl).trans (p45.ne rfl))).trans s2
        replace s4 : a47.eval (.tmp 4) = .pointer (some ⟨q6, 0, none⟩) := ((p47.ne rfl).trans ((p46.ne rfl).trans (p45.ne rfl))).trans s4
        replace s5 : a47.eval (.tmp 5) = .slice none 0 0 := ((p47.ne rfl).trans ((p46.ne rfl).trans (p45.ne rfl))).trans s5
        replace s6 : a47.eval (.tmp 6) = .slice L nl cl := ((p47.ne rfl).trans ((p46.ne rfl).trans (p45.ne rfl))).trans s6
        replace s7 : a47.eval (.tmp 7) = .pointer (some ⟨q24, 0, none⟩) := ((p47.ne rfl).trans ((p46.ne rfl).trans (p45.ne rfl))).trans s7
        replace s8 : a47.eval (.tmp 8) = .int .i64 ((dpN r : Nat) : Int) := ((p47.ne rfl).trans ((p46.ne rfl).trans (p45.ne rfl))).trans s8
        replace s9 : a47.eval (.tmp 9) = .bool true := ((p47.ne rfl).trans ((p46.ne rfl).trans (p45.ne rfl))).trans s9
        replace s68 : a47.eval (.tmp 68) = .bool true := ((p47.ne rfl).trans ((p46.ne rfl).trans (p45.ne rfl))).trans s68
        refine hK55 _ _ ?_
        clear hK55
        by_cases hidle : (dpX r).f0 = 15
        · replace s76 := s76.trans (congrArg (fun b => Value.bool (!b)) (decide_eq_true hidle))
          replace s76 : a47.eval (.tmp 76) = .bool false := s76
          refine c_false s76 ?_
          refine wp_skip ?_
          refine hK54 _ _ ?_
          clear hK54
          refine wp_region_lit ?_
          refine q_val rfl rfl ?_
          refine g_field (r := 3) rfl s2 Try.underlying42 rfl (fun w => Try.sizeOf9 w) rfl rfl ?_
          intro a48 p48
          have s82 : a48.eval (.tmp 82) = .pointer (some ⟨q2, 3, none⟩) := p48.at hs (by decide)
          replace hs := p48.st hs
          refine q_val rfl rfl ?_
          refine g_load rfl s82 Try.isAgg9 (box_cell h_q2 rfl) ?_
          intro a49 p49
          have s83 : a49.eval (.tmp 83) = .string ⟨(r.drop (dpN r)).toArray⟩ := p49.at hs (by decide)
          replace hs := p49.st hs
          refine q_val rfl rfl ?_
          refine g_call rfl rfl Try.call24 (arr2 s83 rfl) ?_
          refine (decodePacket_any (r.drop (dpN r)) 0 _ (by (try rw [List.length_drop]); omega) (by omega)).mono ?_
          rintro e w57 ⟨rfl, hb56⟩
          refine ⟨_, rfl, ?_⟩
          replace h_q2 := keep_below h_q2 hb56
          replace h_q4 := keep_below h_q4 hb56
          replace h_q6 := keep_below h_q6 hb56
          replace h_q24 := keep_below h_q24 hb56
          replace o_l := own_below o_l hb56
          replace hB := hB.trans (hb56.mono hB.size)
          clear hb56
          intro a50 p50
          have s84 : a50.eval (.tmp 84) = .tuple #[.agg #[.int .i64 ((dpX (r.drop (dpN r))).f0), .int .i64 ((dpX (r.drop (dpN r))).f1), .string ⟨((dpX (r.drop (dpN r))).f2).toArray⟩], .int .i64 ((dpN (r.drop (dpN r)) : Nat) : Int), .bool (dpO (r.drop (dpN r)))] := p50.at hs (by decide)
          replace hs := p50.st hs
          refine q_val rfl rfl ?_
          refine g_move rfl s84 ?_
          intro a51 p51
          have s81 : a51.eval (.tmp 81) = .tuple #[.agg #[.int .i64 ((dpX (r.drop (dpN r))).f0), .int .i64 ((dpX (r.drop (dpN r))).f1), .string ⟨((dpX (r.drop (dpN r))).f2).toArray⟩], .int .i64 ((dpN (r.drop (dpN r)) : Nat) : Int), .bool (dpO (r.drop (dpN r)))] := p51.at hs (by decide)
          replace hs := p51.st hs
          refine q_val rfl rfl ?_
          refine g_extract rfl s81 rfl ?_
          intro a52 p52
          have s85 : a52.eval (.tmp 85) = .agg #[.int .i64 ((dpX (r.drop (dpN r))).f0), .int .i64 ((dpX (r.drop (dpN r))).f1), .string ⟨((dpX (r.drop (dpN r))).f2).toArray⟩] := p52.at hs (by decide)
          replace hs := p52.st hs
          refine q_val rfl rfl ?_
          refine g_extract rfl ((p52.ne rfl).trans s81) rfl ?_
          intro a53 p53
          have s86 : a53.eval (.tmp 86) = .int .i64 ((dpN (r.drop (dpN r)) : Nat) : Int) := p53.at hs (by decide)
          replace hs := p53.st hs
          refine q_val rfl rfl ?_
          refine g_extract rfl (((p53.ne rfl).trans (p52.ne rfl)).trans s81) rfl ?_
          intro a54 p54
          have s87 : a54.eval (.tmp 87) = .bool (dpO (r.drop (dpN r))) := p54.at hs (by decide)
          replace hs := p54.st hs
          refine q_eff rfl rfl ?_
          refine g_storeB rfl (((p54.ne rfl).trans ((p53.ne rfl).trans ((p52.ne rfl).trans ((p51.ne rfl).trans ((p50.ne rfl).trans ((p49.ne rfl).trans (p48.ne rfl))))))).trans s7) (((p54.ne rfl).trans (p53.ne rfl)).trans s85) Try.sizeOf32 rfl rfl h_q24 rfl ?_
          intro w58 W_w58
          replace h_q2 := keep_wrote h_q2 W_w58 n_q24_q2
          replace h_q4 := keep_wrote h_q4 W_w58 n_q24_q4
          replace h_q6 := keep_wrote h_q6 W_w58 n_q24_q6
          replace h_q24 := W_w58.here
          replace o_l := own_wrote o_l W_w58 d_l_q24
          replace hB := below_wrote hB hB.size W_w58 g_q24.le
          clear W_w58
          refine q_val rfl rfl ?_
          refine g_assign rfl ((p54.ne rfl).trans s86) ?_
          intro a55 p55
          have s8 : a55.eval (.tmp 8) = .int .i64 ((dpN (r.drop (dpN r)) : Nat) : Int) := p55.at hs (by decide)
          replace hs := p55.st hs
          refine q_val rfl rfl ?_
          refine g_assign rfl ((p55.ne rfl).trans s87) ?_
          intro a56 p56
          have s9 : a56.eval (.tmp 9) = .bool (dpO (r.drop (dpN r))) := p56.at hs (by decide)
          replace hs := p56.st hs
          refine wpList_nil ?_
          replace s2 : a56.eval (.tmp 2) = .pointer (some ⟨q2, 0, none⟩) := ((p56.ne rfl).trans ((p55.ne rfl).trans ((p54.ne rfl).trans ((p53.ne rfl).trans ((p52.ne rfl).trans ((p51.ne rfl).trans ((p50.ne rfl).trans ((p49.ne rfl).trans (p48.ne rfl))))))))).trans s2
          replace s4 : a56.eval (.tmp 4) = .pointer (some ⟨q6, 0, none⟩) := ((p56.ne rfl).trans ((p55.ne rfl).trans ((p54.ne rfl).trans ((p53.ne rfl).trans ((p52.ne rfl).trans ((p51.ne rfl).trans ((p50.ne rfl).trans ((p49.ne rfl).trans (p48.ne rfl))))))))).trans s4
          replace s5 : a56.eval (.tmp 5) = .slice none 0 0 := ((p56.ne rfl).trans ((p55.ne rfl).trans ((p54.ne rfl).trans ((p53.ne rfl).trans ((p52.ne rfl).trans ((p51.ne rfl).trans ((p50.ne rfl).trans ((p49.ne rfl).trans (p48.ne rfl))))))))).trans s5
          replace s6 : a56.eval (.tmp 6) = .slice L nl cl := ((p56.ne rfl).trans ((p55.ne rfl).trans ((p54.ne rfl).trans ((p53.ne rfl).trans ((p52.ne rfl).trans ((p51.ne rfl).trans ((p50.ne rfl).trans ((p49.ne rfl).trans (p48.ne rfl))))))))).trans s6
          replace s7 : a56.eval (.tmp 7) = .pointer (some ⟨q24, 0, none⟩) := ((p56.ne rfl).trans ((p55.ne rfl).trans ((p54.ne rfl).trans ((p53.ne rfl).trans ((p52.ne rfl).trans ((p51.ne rfl).trans ((p50.ne rfl).trans ((p49.ne rfl).trans (p48.ne rfl))))))))).trans s7
          replace s8 : a56.eval (.tmp 8) = .int .i64 ((dpN (r.drop (dpN r)) : Nat) : Int) := (p56.ne rfl).trans s8
          replace s68 : a56.eval (.tmp 68) = .bool true := ((p56.ne rfl).trans ((p55.ne rfl).trans ((p54.ne rfl).trans ((p53.ne rfl).trans ((p52.ne rfl).trans ((p51.ne rfl).trans ((p50.ne rfl).trans ((p49.ne rfl).trans (p48.ne rfl))))))))).trans s68
          replace s76 : a56.eval (.tmp 76) = .bool false := ((p56.ne rfl).trans ((p55.ne rfl).trans ((p54.ne rfl).trans ((p53.ne rfl).trans ((p52.ne rfl).trans ((p51.ne rfl).trans ((p50.ne rfl).trans ((p49.ne rfl).trans (p48.ne rfl))))))))).trans s76
          refine show _ ∧ _ from ⟨⟨r.drop (dpN r), l0 ++ [dpX r], ls, _, _, _, hs, s2, s4, s5, s6, s7, s8, s9, hB, h_q2, h_q4, h_q6, h_q24, o_l, d_l_q2, d_l_q4, d_l_q6, d_l_q24, g_l, (decs_go hD hok), (by rw [notIdle_skip hidle, hls]), hnl, (by rw [List.length_drop]; simp only [List.length_append, List.length_cons, List.length_nil]; omega)⟩, ?_⟩
          show lenSt w58 q2 3 < lenSt w29 q2 3
          rw [lenSt_of h_q2 rfl, lenSt_of mu30 rfl, List.length_drop]
          omega
        · replace s76 := s76.trans (congrArg (fun b => Value.bool (!b)) (decide_eq_false hidle))
          replace s76 : a47.eval (.tmp 76) = .bool true := s76
          refine c_true s76 ?_
          refine wp_region_lit ?_
          refine q_val rfl rfl ?_
          refine g_move rfl s6 ?_
          intro a48 p48
          have s77 : a48.eval (.tmp 77) = .slice L nl cl := p48.at hs (by decide)
          replace hs := p48.st hs
          refine q_val rfl rfl ?_
          refine g_loadB rfl ((p48.ne rfl).trans s7) Try.isAgg32 Try.sizeOf32 rfl h_q24 ?_
          intro a49 p49
          have s78 : a49.eval (.tmp 78) = .agg #[.int .i64 ((dpX r).f0), .int .i64 ((dpX r).f1), .string ⟨((dpX r).f2).toArray⟩] := p49.at hs (by decide)
          replace hs := p49.st hs
          refine q_val rfl rfl ?_
          refine g_bslice1 (cs := #[.int .i64 ((dpX r).f0), .int .i64 ((dpX r).f1), .string ⟨((dpX r).f2).toArray⟩]) rfl Try.underlying24 Try.sizeOf32 Try.zeroValue32 s78 (by kernel_rfl) rfl (by decide) ?_
          intro q59 w60 N_q59
          have n_q2_q59 := N_q59.ne ⟨lt_of_block h_q2⟩
          have n_q59_q2 := n_q2_q59.symm
          have n_q4_q59 := N_q59.ne ⟨lt_of_block h_q4⟩
          have n_q59_q4 := n_q4_q59.symm
          have n_q6_q59 := N_q59.ne ⟨lt_of_block h_q6⟩
          have n_q59_q6 := n_q6_q59.symm
          have n_q24_q59 := N_q59.ne ⟨lt_of_block h_q24⟩
          have n_q59_q24 := n_q24_q59.symm
          have d_l_q59 := own_ne_new o_l N_q59
          have g_q59 : GeB w.heap.size q59 := ⟨Nat.le_trans hB.size N_q59.lo⟩
          replace h_q2 := keep_below h_q2 N_q59.below
          replace h_q4 := keep_below h_q4 N_q59.below
          replace h_q6 := keep_below h_q6 N_q59.below
          replace h_q24 := keep_below h_q24 N_q59.below
          replace o_l := own_below o_l N_q59.below
          replace hB := below_new hB hB.size N_q59
          have h_q59 := N_q59.here
          clear N_q59
          intro a50 p50
          have s79 : a50.eval (.tmp 79) = .slice (some ⟨q59, 0, none⟩) 1 1 := p50.at hs (by decide)
          replace hs := p50.st hs
          refine q_val rfl rfl ?_
          refine g_append (n' := nl + 1) (ys := (ls ++ [dpX r]).flatMap cPacket) w.heap.size (.agg #[.int .i64 0, .int .i64 0, .string ⟨#[]⟩]) 3 32 rfl (((p50.ne rfl).trans (p49.ne rfl)).trans s77) s79 Try.underlying24 infoPacket rfl (by decide) o_l (fun h => by cases h) (rd_box (xs := ([dpX r]).flatMap cPacket) h_q59 rfl rfl) (flatPacket_one _) (by omega) hB.size (by decide) (by omega) (by first | rfl | simp [List.flatMap_append] | (simp [List.flatMap_append, cPacket]; done)) ?_
          intro A_r61 c_r61 w62 P_r61
          have d_r61_q2 := P_r61.ne d_l_q2 (lt_of_block h_q2)
          have d_r61_q4 := P_r61.ne d_l_q4 (lt_of_block h_q4)
          have d_r61_q6 := P_r61.ne d_l_q6 (lt_of_block h_q6)
          have d_r61_q24 := P_r61.ne d_l_q24 (lt_of_block h_q24)
          have d_r61_q59 := P_r61.ne d_l_q59 (lt_of_block h_q59)
          have g_r61 := P_r61.ge g_l hB.size
          replace h_q2 := keep_grown h_q2 P_r61.grown d_l_q2
          replace h_q4 := keep_grown h_q4 P_r61.grown d_l_q4
          replace h_q6 := keep_grown h_q6 P_r61.grown d_l_q6
          replace h_q24 := keep_grown h_q24 P_r61.grown d_l_q24
          replace h_q59 := keep_grown h_q59 P_r61.grown d_l_q59
          replace hB := below_grown hB hB.size P_r61.grown g_l
          have o_r61 := P_r61.own
          clear P_r61
          intro a51 p51
          have s80 : a51.eval (.tmp 80) = .slice A_r61 (nl + 1) c_r61 := p51.at hs (by decide)
          replace hs := p51.st hs
          refine q_val rfl rfl ?_
          refine g_assign rfl s80 ?_
          intro a52 p52
          have s6 : a52.eval (.tmp 6) = .slice A_r61 (nl + 1) c_r61 := p52.at hs (by decide)
          replace hs := p52.st hs
          refine wpList_nil ?_
          replace s2 : a52.eval (.tmp 2) = .pointer (some ⟨q2, 0, none⟩) := ((p52.ne rfl).trans ((p51.ne rfl).trans ((p50.ne rfl).trans ((p49.ne rfl).trans (p48.ne rfl))))).trans s2
          replace s4 : a52.eval (.tmp 4) = .pointer (some ⟨q6, 0, none⟩) := ((p52.ne rfl).trans ((p51.ne rfl).trans ((p50.ne rfl).trans ((p49.ne rfl).trans (p48.ne rfl))))).trans s4
          replace s5 : a52.eval (.tmp 5) = .slice none 0 0 := ((p52.ne rfl).trans ((p51.ne rfl).trans ((p50.ne rfl).trans ((p49.ne rfl).trans (p48.ne rfl))))).trans s5
          replace s7 : a52.eval (.tmp 7) = .pointer (some ⟨q24, 0, none⟩) := ((p52.ne rfl).trans ((p51.ne rfl).trans ((p50.ne rfl).trans ((p49.ne rfl).trans (p48.ne rfl))))).trans s7
          replace s8 : a52.eval (.tmp 8) = .int .i64 ((dpN r : Nat) : Int) := ((p52.ne rfl).trans ((p51.ne rfl).trans ((p50.ne rfl).trans ((p49.ne rfl).trans (p48.ne rfl))))).trans s8
          replace s9 : a52.eval (.tmp 9) = .bool true := ((p52.ne rfl).trans ((p51.ne rfl).trans ((p50.ne rfl).trans ((p49.ne rfl).trans (p48.ne rfl))))).trans s9
          replace s68 : a52.eval (.tmp 68) = .bool true := ((p52.ne rfl).trans ((p51.ne rfl).trans ((p50.ne rfl).trans ((p49.ne rfl).trans (p48.ne rfl))))).trans s68
          replace s76 : a52.eval (.tmp 76) = .bool true := ((p52.ne rfl).trans ((p51.ne rfl).trans ((p50.ne rfl).trans ((p49.ne rfl).trans (p48.ne rfl))))).trans s76
          refine hK54 _ _ ?_
          clear hK54
          refine wp_region_lit ?_
          refine q_val rfl rfl ?_
          refine g_field (r := 3) rfl s2 Try.underlying42 rfl (fun w => Try.sizeOf9 w) rfl rfl ?_
          intro a53 p53
          have s82 : a53.eval (.tmp 82) = .pointer (some ⟨q2, 3, none⟩) := p53.at hs (by decide)
          replace hs := p53.st hs
          refine q_val rfl rfl ?_
          refine g_load rfl s82 Try.isAgg9 (box_cell h_q2 rfl) ?_
          intro a54 p54
          have s83 : a54.eval (.tmp 83) = .string ⟨(r.drop (dpN r)).toArray⟩ := p54.at hs (by decide)
          replace hs := p54.st hs
          refine q_val rfl rfl ?_
          refine g_call rfl rfl Try.call24 (arr2 s83 rfl) ?_
          refine (decodePacket_any (r.drop (dpN r)) 0 _ (by (try rw [List.length_drop]); omega) (by omega)).mono ?_
          rintro e w64 ⟨rfl, hb63⟩
          refine ⟨_, rfl, ?_⟩
          replace h_q2 := keep_below h_q2 hb63
          replace h_q4 := keep_below h_q4 hb63
          replace h_q6 := keep_below h_q6 hb63
          replace h_q24 := keep_below h_q24 hb63
          replace h_q59 := keep_below h_q59 hb63
          replace o_r61 := own_below o_r61 hb63
          replace hB := hB.trans (hb63.mono hB.size)
          clear hb63
          intro a55 p55
          have s84 : a55.eval (.tmp 84) = .tuple #[.agg #[.int .i64 ((dpX (r.drop (dpN r))).f0), .int .i64 ((dpX (r.drop (dpN r))).f1), .string ⟨((dpX (r.drop (dpN r))).f2).toArray⟩], .int .i64 ((dpN (r.drop (dpN r)) : Nat) : Int), .bool (dpO (r.drop (dpN r)))] := p55.at hs (by decide)
          replace hs := p55.st hs
          refine q_val rfl rfl ?_
          refine g_move rfl s84 ?_
          intro a56 p56
          have s81 : a56.eval (.tmp 81) = .tuple #[.agg #[.int .i64 ((dpX (r.drop (dpN r))).f0), .int .i64 ((dpX (r.drop (dpN r))).f1), .string ⟨((dpX (r.drop (dpN r))).f2).toArray⟩], .int .i64 ((dpN (r.drop (dpN r)) : Nat) : Int), .bool (dpO (r.drop (dpN r)))] := p56.at hs (by decide)
          replace hs := p56.st hs
          refine q_val rfl rfl ?_
          refine g_extract rfl s81 rfl ?_
          intro a57 p57
          have s85 : a57.eval (.tmp 85) = .agg #[.int .i64 ((dpX (r.drop (dpN r))).f0), .int .i64 ((dpX (r.drop (dpN r))).f1), .string ⟨((dpX (r.drop (dpN r))).f2).toArray⟩] := p57.at hs (by decide)
          replace hs := p57.st hs
          refine q_val rfl rfl ?_
          refine g_extract rfl ((p57.ne rfl).trans s81) rfl ?_
          intro a58 p58
          have s86 : a58.eval (.tmp 86) = .int .i64 ((dpN (r.drop (dpN r)) : Nat) : Int) := p58.at hs (by decide)
          replace hs := p58.st hs
          refine q_val rfl rfl ?_
          refine g_extract rfl (((p58.ne rfl).trans (p57.ne rfl)).trans s81) rfl ?_
          intro a59 p59
          have s87 : a59.eval (.tmp 87) = .bool (dpO (r.drop (dpN r))) := p59.at hs (by decide)
          replace hs := p59.st hs
          refine q_eff rfl rfl ?_
          refine g_storeB rfl (((p59.ne rfl).trans ((p58.ne rfl).trans ((p57.ne rfl).trans ((p56.ne rfl).trans ((p55.ne rfl).trans ((p54.ne rfl).trans (p53.ne rfl))))))).trans s7) (((p59.ne rfl).trans (p58.ne rfl)).trans s85) Try.sizeOf32 rfl rfl h_q24 rfl ?_
          intro w65 W_w65
          replace h_q2 := keep_wrote h_q2 W_w65 n_q24_q2
          replace h_q4 := keep_wrote h_q4 W_w65 n_q24_q4
          replace h_q6 := keep_wrote h_q6 W_w65 n_q24_q6
          replace h_q24 := W_w65.here
          replace h_q59 := keep_wrote h_q59 W_w65 n_q24_q59
          replace o_r61 := own_wrote o_r61 W_w65 d_r61_q24
          replace hB := below_wrote hB hB.size W_w65 g_q24.le
          clear W_w65
          refine q_val rfl rfl ?_
          refine g_assign rfl ((p59.ne rfl).trans s86) ?_
          intro a60 p60
          have s8 : a60.eval (.tmp 8) = .int .i64 ((dpN (r.drop (dpN r)) : Nat) : Int) := p60.at hs (by decide)
          replace hs := p60.st hs
          refine q_val rfl rfl ?_
          refine g_assign rfl ((p60.ne rfl).trans s87) ?_
          intro a61 p61
          have s9 : a61.eval (.tmp 9) = .bool (dpO (r.drop (dpN r))) := p61.at hs (by decide)
          replace hs := p61.st hs
          refine wpList_nil ?_
          replace s2 : a61.eval (.tmp 2) = .pointer (some ⟨q2, 0, none⟩) := ((p61.ne rfl).trans ((p60.ne rfl).trans ((p59.ne rfl).trans ((p58.ne rfl).trans ((p57.ne rfl).trans ((p56.ne rfl).trans ((p55.ne rfl).trans ((p54.ne rfl).trans (p53.ne rfl))))))))).trans s2
          replace s4 : a61.eval (.tmp 4) = .pointer (some ⟨q6, 0, none⟩) := ((p61.ne rfl).trans ((p60.ne rfl).trans ((p59.ne rfl).trans ((p58.ne rfl).trans ((p57.ne rfl).trans ((p56.ne rfl).trans ((p55.ne rfl).trans ((p54.ne rfl).trans (p53.ne rfl))))))))).trans s4
          replace s5 : a61.eval (.tmp 5) = .slice none 0 0 := ((p61.ne rfl).trans ((p60.ne rfl).trans ((p59.ne rfl).trans ((p58.ne rfl).trans ((p57.ne rfl).trans ((p56.ne rfl).trans ((p55.ne rfl).trans ((p54.ne rfl).trans (p53.ne rfl))))))))).trans s5
          replace s6 : a61.eval (.tmp 6) = .slice A_r61 (nl + 1) c_r61 := ((p61.ne rfl).trans ((p60.ne rfl).trans ((p59.ne rfl).trans ((p58.ne rfl).trans ((p57.ne rfl).trans ((p56.ne rfl).trans ((p55.ne rfl).trans ((p54.ne rfl).trans (p53.ne rfl))))))))).trans s6
          replace s7 : a61.eval (.tmp 7) = .pointer (some ⟨q24, 0, none⟩) := ((p61.ne rfl).trans ((p60.ne rfl).trans ((p59.ne rfl).trans ((p58.ne rfl).trans ((p57.ne rfl).trans ((p56.ne rfl).trans ((p55.ne rfl).trans ((p54.ne rfl).trans (p53.ne rfl))))))))).trans s7
          replace s8 : a61.eval (.tmp 8) = .int .i64 ((dpN (r.drop (dpN r)) : Nat) : Int) := (p61.ne rfl).trans s8
          replace s68 : a61.eval (.tmp 68) = .bool true := ((p61.ne rfl).trans ((p60.ne rfl).trans ((p59.ne rfl).trans ((p58.ne rfl).trans ((p57.ne rfl).trans ((p56.ne rfl).trans ((p55.ne rfl).trans ((p54.ne rfl).trans (p53.ne rfl))))))))).trans s68
          replace s76 : a61.eval (.tmp 76) = .bool true := ((p61.ne rfl).trans ((p60.ne rfl).trans ((p59.ne rfl).trans ((p58.ne rfl).trans ((p57.ne rfl).trans ((p56.ne rfl).trans ((p55.ne rfl).trans ((p54.ne rfl).trans (p53.ne rfl))))))))).trans s76
          have o_l := o_r61
          have g_l := g_r61
          have d_l_q2 := d_r61_q2
          have d_l_q4 := d_r61_q4
          have d_l_q6 := d_r61_q6
          have d_l_q24 := d_r61_q24
          refine show _ ∧ _ from ⟨⟨r.drop (dpN r), l0 ++ [dpX r], ls ++ [dpX r], _, _, _, hs, s2, s4, s5, s6, s7, s8, s9, hB, h_q2, h_q4, h_q6, h_q24, o_l, d_l_q2, d_l_q4, d_l_q6, d_l_q24, g_l, (decs_go hD hok), (by rw [notIdle_yes hidle, hls]), (by rw [List.length_append, hnl]; rfl), (by rw [List.length_drop]; simp only [List.length_append, List.length_cons, List.length_nil]; omega)⟩, ?_⟩
          show lenSt w65 q2 3 < lenSt w29 q2 3
          rw [lenSt_of h_q2 rfl, lenSt_of mu30 rfl, List.length_drop]
          omega
    clear hK18
    refine wp_seq_k fun K66 hK66 => ?_
    refine wp_region_lit ?_
    refine q_val rfl rfl ?_
    refine g_field (r := 2) rfl s2 Try.underlying42 rfl (fun w => Try.sizeOf4 w) rfl rfl ?_
    intro a26 p26
    have s43 : a26.eval (.tmp 43) = .pointer (some ⟨q2, 2, none⟩) := p26.at hs (by decide)
    replace hs := p26.st hs
    refine q_val rfl rfl ?_
    refine g_load rfl s43 Try.isAgg4 (box_cell h_q2 rfl) ?_
    intro a27 p27
    have s44 : a27.eval (.tmp 44) = .bool v.sy := p27.at hs (by decide)
    replace hs := p27.st hs
    refine wpList_nil ?_
    replace s2 : a27.eval (.tmp 2) = .pointer (some ⟨q2, 0, none⟩) := ((p27.ne rfl).trans (p26.ne rfl)).trans s2
    replace s3 : a27.eval (.tmp 3) = .pointer (some ⟨q4, 0, none⟩) := ((p27.ne rfl).trans (p26.ne rfl)).trans s3
    replace s4 : a27.eval (.tmp 4) = .pointer (some ⟨q6, 0, none⟩) := ((p27.ne rfl).trans (p26.ne rfl)).trans s4
    replace s5 : a27.eval (.tmp 5) = .slice none 0 0 := ((p27.ne rfl).trans (p26.ne rfl)).trans s5
    refine hK66 _ _ ?_
    clear hK66
    cases hsy : v.sy
    · replace s44 := s44.trans (congrArg Value.bool hsy)
      replace s44 : a27.eval (.tmp 44) = .bool false := s44
      refine c_false s44 ?_
      refine wp_seq_k fun K67 hK67 => ?_
      refine wp_region_lit ?_
      refine q_val rfl rfl ?_
      refine g_field (r := 2) rfl s3 Try.underlying40 rfl (fun w => Try.sizeOf3 w) rfl rfl ?_
      intro a28 p28
      have s51 : a28.eval (.tmp 51) = .pointer (some ⟨q4, 2, none⟩) := p28.at hs (by decide)
      replace hs := p28.st hs
      refine q_val rfl rfl ?_
      refine g_load rfl s51 Try.isAgg3 (box_cell h_q4 rfl) ?_
      intro a29 p29
      have s52 : a29.eval (.tmp 52) = .int .i64 x.f2 := p29.at hs (by decide)
      replace hs := p29.st hs
      refine q_val rfl rfl ?_
      refine g_neq rfl s52 rfl ?_
      intro a30 p30
      have s53 : a30.eval (.tmp 53) = .bool (!decide (x.f2 = 255)) := p30.at hs (by decide)
      replace hs := p30.st hs
      refine wpList_nil ?_
      replace s2 : a30.eval (.tmp 2) = .pointer (some ⟨q2, 0, none⟩) := ((p30.ne rfl).trans ((p29.ne rfl).trans (p28.ne rfl))).trans s2
      replace s3 : a30.eval (.tmp 3) = .pointer (some ⟨q4, 0, none⟩) := ((p30.ne rfl).trans ((p29.ne rfl).trans (p28.ne rfl))).trans s3
      replace s4 : a30.eval (.tmp 4) = .pointer (some ⟨q6, 0, none⟩) := ((p30.ne rfl).trans ((p29.ne rfl).trans (p28.ne rfl))).trans s4
      replace s5 : a30.eval (.tmp 5) = .slice none 0 0 := ((p30.ne rfl).trans ((p29.ne rfl).trans (p28.ne rfl))).trans s5
      refine hK67 _ _ ?_
      clear hK67
      by_cases hf2 : x.f2 = 255
      · replace s53 := s53.trans (congrArg (fun b => Value.bool (!b)) (decide_eq_true hf2))
        replace s53 : a30.eval (.tmp 53) = .bool false := s53
        refine c_false s53 ?_
        refine wp_skip ?_
        have hsu : v.sy = syU v x := by unfold syU; simp [hsy, hf2]
        have hru : v.rest = restU v x := by unfold restU; simp [hsy, hf2]
        replace h_q2 : w17.heap[q2]? = some (.cells #[.int .i64 v.ch, .int .i64 ((x.f1 + 1) % 256), .bool (syU v x), .string ⟨(restU v x).toArray⟩, .int .i64 v.lost] 42 (0, 0)) := by rw [← hsu, ← hru]; exact h_q2
        have hrl : (restU v x).length ≤ 100 := by rw [← hru]; (try simp only [List.length_append, List.length_drop]); omega
        exact jK18 _ _ ⟨hs, s2, s4, s5, hB, h_q2, h_q4, h_q6, hrl⟩
      · replace s53 := s53.trans (congrArg (fun b => Value.bool (!b)) (decide_eq_false hf2))
        replace s53 : a30.eval (.tmp 53) = .bool true := s53
        refine c_true s53 ?_
        refine wp_seq_k fun K68 hK68 => ?_
        refine wp_region_lit ?_
        refine q_val rfl rfl ?_
        refine g_field (r := 3) rfl s3 Try.underlying40 rfl (fun w => Try.sizeOf9 w) rfl rfl ?_
        intro a31 p31
        have s54 : a31.eval (.tmp 54) = .pointer (some ⟨q4, 3, none⟩) := p31.at hs (by decide)
        replace hs := p31.st hs
        refine q_val rfl rfl ?_
        refine g_load rfl s54 Try.isAgg9 (box_cell h_q4 rfl) ?_
        intro a32 p32
        have s55 : a32.eval (.tmp 55) = .string ⟨(x.f3).toArray⟩ := p32.at hs (by decide)
        replace hs := p32.st hs
        refine q_val rfl rfl ?_
        refine g_field (r := 2) rfl (((p32.ne rfl).trans (p31.ne rfl)).trans s3) Try.underlying40 rfl (fun w => Try.sizeOf3 w) rfl rfl ?_
        intro a33 p33
        have s56 : a33.eval (.tmp 56) = .pointer (some ⟨q4, 2, none⟩) := p33.at hs (by decide)
        replace hs := p33.st hs
        refine q_val rfl rfl ?_
        refine g_load rfl s56 Try.isAgg3 (box_cell h_q4 rfl) ?_
        intro a34 p34
        have s57 : a34.eval (.tmp 57) = .int .i64 x.f2 := p34.at hs (by decide)
        replace hs := p34.st hs
        refine q_val rfl rfl ?_
        refine g_tailS (k := (x.f2).toNat) rfl (((p34.ne rfl).trans (p33.ne rfl)).trans s55) s57 (Int.toNat_of_nonneg (by omega)).symm Try.underlying9 (by omega) ?_
        intro a35 p35
        have s58 : a35.eval (.tmp 58) = .string ⟨(x.f3.drop ((x.f2).toNat)).toArray⟩ := p35.at hs (by decide)
        replace hs := p35.st hs
        refine q_val rfl rfl ?_
        refine g_field (r := 3) rfl (((p35.ne rfl).trans ((p34.ne rfl).trans ((p33.ne rfl).trans ((p32.ne rfl).trans (p31.ne rfl))))).trans s2) Try.underlying42 rfl (fun w => Try.sizeOf9 w) rfl rfl ?_
        intro a36 p36
        have s59 : a36.eval (.tmp 59) = .pointer (some ⟨q2, 3, none⟩) := p36.at hs (by decide)
        replace hs := p36.st hs
        refine q_eff rfl rfl ?_
        refine g_store (cs' := #[.int .i64 v.ch, .int .i64 ((x.f1 + 1) % 256), .bool v.sy, .string ⟨(x.f3.drop ((x.f2).toNat)).toArray⟩, .int .i64 v.lost]) rfl s59 ((p36.ne rfl).trans s58) Try.sizeOf9 rfl h_q2 (Nat.le_of_ble_eq_true rfl) rfl ?_
        intro w69 W_w69
        replace h_q2 := W_w69.here
        replace h_q4 := keep_wrote h_q4 W_w69 n_q2_q4
        replace h_q6 := keep_wrote h_q6 W_w69 n_q2_q6
        replace hB := below_wrote hB hB.size W_w69 g_q2.le
        clear W_w69
        refine wpList_nil ?_
        replace s2 : a36.eval (.tmp 2) = .pointer (some ⟨q2, 0, none⟩) := ((p36.ne rfl).trans ((p35.ne rfl).trans ((p34.ne rfl).trans ((p33.ne rfl).trans ((p32.ne rfl).trans (p31.ne rfl)))))).trans s2
        replace s4 : a36.eval (.tmp 4) = .pointer (some ⟨q6, 0, none⟩) := ((p36.ne rfl).trans ((p35.ne rfl).trans ((p34.ne rfl).trans ((p33.ne rfl).trans ((p32.ne rfl).trans (p31.ne rfl)))))).trans s4
        replace s5 : a36.eval (.tmp 5) = .slice none 0 0 := ((p36.ne rfl).trans ((p35.ne rfl).trans ((p34.ne rfl).trans ((p33.ne rfl).trans ((p32.ne rfl).trans (p31.ne rfl)))))).trans s5
        refine hK68 _ _ ?_
        clear hK68
        refine wp_region_lit ?_
        refine q_val rfl rfl ?_
        refine g_field (r := 2) rfl s2 Try.underlying42 rfl (fun w => Try.sizeOf4 w) rfl rfl ?_
        intro a37 p37
        have s60 : a37.eval (.tmp 60) = .pointer (some ⟨q2, 2, none⟩) := p37.at hs (by decide)
        replace hs := p37.st hs
        refine q_eff rfl rfl ?_
        refine g_store (cs' := #[.int .i64 v.ch, .int .i64 ((x.f1 + 1) % 256), .bool true, .string ⟨(x.f3.drop ((x.f2).toNat)).toArray⟩, .int .i64 v.lost]) rfl s60 rfl Try.sizeOf4 rfl h_q2 (Nat.le_of_ble_eq_true rfl) rfl ?_
        intro w70 W_w70
        replace h_q2 := W_w70.here
        replace h_q4 := keep_wrote h_q4 W_w70 n_q2_q4
        replace h_q6 := keep_wrote h_q6 W_w70 n_q2_q6
        replace hB := below_wrote hB hB.size W_w70 g_q2.le
        clear W_w70
        refine wpList_nil ?_
        replace s2 : a37.eval (.tmp 2) = .pointer (some ⟨q2, 0, none⟩) := (p37.ne rfl).trans s2
        replace s4 : a37.eval (.tmp 4) = .pointer (some ⟨q6, 0, none⟩) := (p37.ne rfl).trans s4
        replace s5 : a37.eval (.tmp 5) = .slice none 0 0 := (p37.ne rfl).trans s5
        have hsu : true = syU v x := by unfold syU; simp [hsy, hf2]
        have hru : x.f3.drop ((x.f2).toNat) = restU v x := by unfold restU; simp [hsy, hf2]
        replace h_q2 : w70.heap[q2]? = some (.cells #[.int .i64 v.ch, .int .i64 ((x.f1 + 1) % 256), .bool (syU v x), .string ⟨(restU v x).toArray⟩, .int .i64 v.lost] 42 (0, 0)) := by rw [← hsu, ← hru]; exact h_q2
        have hrl : (restU v x).length ≤ 100 := by rw [← hru]; (try simp only [List.length_append, List.length_drop]); omega
        exact jK18 _ _ ⟨hs, s2, s4, s5, hB, h_q2, h_q4, h_q6, hrl⟩
    · replace s44 := s44.trans (congrArg Value.bool hsy)
      replace s44 : a27.eval (.tmp 44) = .bool true := s44
      refine c_true s44 ?_
      refine wp_region_lit ?_
      refine q_val rfl rfl ?_
      refine g_field (r := 3) rfl s2 Try.underlying42 rfl (fun w => Try.sizeOf9 w) rfl rfl ?_
      intro a28 p28
      have s45 : a28.eval (.tmp 45) = .pointer (some ⟨q2, 3, none⟩) := p28.at hs (by decide)
      replace hs := p28.st hs
      refine q_val rfl rfl ?_
      refine g_load rfl s45 Try.isAgg9 (box_cell h_q2 rfl) ?_
      intro a29 p29
      have s46 : a29.eval (.tmp 46) = .string ⟨(v.rest).toArray⟩ := p29.at hs (by decide)
      replace hs := p29.st hs
      refine q_val rfl rfl ?_
      refine g_field (r := 3) rfl (((p29.ne rfl).trans (p28.ne rfl)).trans s3) Try.underlying40 rfl (fun w => Try.sizeOf9 w) rfl rfl ?_
      intro a30 p30
      have s47 : a30.eval (.tmp 47) = .pointer (some ⟨q4, 3, none⟩) := p30.at hs (by decide)
      replace hs := p30.st hs
      refine q_val rfl rfl ?_
      refine g_load rfl s47 Try.isAgg9 (box_cell h_q4 rfl) ?_
      intro a31 p31
      have s48 : a31.eval (.tmp 48) = .string ⟨(x.f3).toArray⟩ := p31.at hs (by decide)
      replace hs := p31.st hs
      refine q_val rfl rfl ?_
      refine g_concat rfl (((p31.ne rfl).trans (p30.ne rfl)).trans s46) s48 (by omega) ?_
      intro a32 p32
      have s49 : a32.eval (.tmp 49) = .string ⟨(v.rest ++ x.f3).toArray⟩ := p32.at hs (by decide)
      replace hs := p32.st hs
      refine q_val rfl rfl ?_
      refine g_field (r := 3) rfl (((p32.ne rfl).trans ((p31.ne rfl).trans ((p30.ne rfl).trans ((p29.ne rfl).trans (p28.ne rfl))))).trans s2) Try.underlying42 rfl (fun w => Try.sizeOf9 w) rfl rfl ?_
      intro a33 p33
      have s50 : a33.eval (.tmp 50) = .pointer (some ⟨q2, 3, none⟩) := p33.at hs (by decide)
      replace hs := p33.st hs
      refine q_eff rfl rfl ?_
      refine g_store (cs' := #[.int .i64 v.ch, .int .i64 ((x.f1 + 1) % 256), .bool v.sy, .string ⟨(v.rest ++ x.f3).toArray⟩, .int .i64 v.lost]) rfl s50 ((p33.ne rfl).trans s49) Try.sizeOf9 rfl h_q2 (Nat.le_of_ble_eq_true rfl) rfl ?_
      intro w71 W_w71
      replace h_q2 := W_w71.here
      replace h_q4 := keep_wrote h_q4 W_w71 n_q2_q4
      replace h_q6 := keep_wrote h_q6 W_w71 n_q2_q6
      replace hB := below_wrote hB hB.size W_w71 g_q2.le
      clear W_w71
      refine wpList_nil ?_
      replace s2 : a33.eval (.tmp 2) = .pointer (some ⟨q2, 0, none⟩) := ((p33.ne rfl).trans ((p32.ne rfl).trans ((p31.ne rfl).trans ((p30.ne rfl).trans ((p29.ne rfl).trans (p28.ne rfl)))))).trans s2
      replace s3 : a33.eval (.tmp 3) = .pointer (some ⟨q4, 0, none⟩) := ((p33.ne rfl).trans ((p32.ne rfl).trans ((p31.ne rfl).trans ((p30.ne rfl).trans ((p29.ne rfl).trans (p28.ne rfl)))))).trans s3
      replace s4 : a33.eval (.tmp 4) = .pointer (some ⟨q6, 0, none⟩) := ((p33.ne rfl).trans ((p32.ne rfl).trans ((p31.ne rfl).trans ((p30.ne rfl).trans ((p29.ne rfl).trans (p28.ne rfl)))))).trans s4
      replace s5 : a33.eval (.tmp 5) = .slice none 0 0 := ((p33.ne rfl).trans ((p32.ne rfl).trans ((p31.ne rfl).trans ((p30.ne rfl).trans ((p29.ne rfl).trans (p28.ne rfl)))))).trans s5
      have hsu : v.sy = syU v x := by unfold syU; simp [hsy]
      have hru : v.rest ++ x.f3 = restU v x := by unfold restU; simp [hsy]
      replace h_q2 : w71.heap[q2]? = some (.cells #[.int .i64 v.ch, .int .i64 ((x.f1 + 1) % 256), .bool (syU v x), .string ⟨(restU v x).toArray⟩, .int .i64 v.lost] 42 (0, 0)) := by rw [← hsu, ← hru]; exact h_q2
      have hrl : (restU v x).length ≤ 100 := by rw [← hru]; (try simp only [List.length_append, List.length_drop]); omega
      exact jK18 _ _ ⟨hs, s2, s4, s5, hB, h_q2, h_q4, h_q6, hrl⟩
  clear hK14
  refine wp_seq_k fun K72 hK72 => ?_
  refine wp_region_lit ?_
  refine q_val rfl rfl ?_
  refine g_field (r := 1) rfl s2 Try.underlying42 rfl (fun w => Try.sizeOf3 w) rfl rfl ?_
  intro a20 p20
  have s26 : a20.eval (.tmp 26) = .pointer (some ⟨q2, 1, none⟩) := p20.at hs (by decide)
  replace hs := p20.st hs
  refine q_val rfl rfl ?_
  refine g_load rfl s26 Try.isAgg3 (box_cell h_q2 rfl) ?_
  intro a21 p21
  have s27 : a21.eval (.tmp 27) = .int .i64 u.nx := p21.at hs (by decide)
  replace hs := p21.st hs
  refine q_val rfl rfl ?_
  refine g_neq rfl s27 rfl ?_
  intro a22 p22
  have s28 : a22.eval (.tmp 28) = .bool (!decide (u.nx = (-1))) := p22.at hs (by decide)
  replace hs := p22.st hs
  refine q_val rfl rfl ?_
  refine g_move rfl s28 ?_
  intro a23 p23
  have s29 : a23.eval (.tmp 29) = .bool (!decide (u.nx = (-1))) := p23.at hs (by decide)
  replace hs := p23.st hs
  by_cases hn1 : u.nx = (-1)
  · replace s28 := s28.trans (congrArg (fun b => Value.bool (!b)) (decide_eq_true hn1))
    replace s28 : a22.eval (.tmp 28) = .bool false := s28
    replace s29 := s29.trans (congrArg (fun b => Value.bool (!b)) (decide_eq_true hn1))
    replace s29 : a23.eval (.tmp 29) = .bool false := s29
    refine q_skip rfl rfl s29 rfl ?_
    intro a24 p24
    have s30 : a24.eval (.tmp 30) = undef := p24.at hs (by decide)
    replace hs := p24.st hs
    refine q_skip rfl rfl ((p24.ne rfl).trans s29) rfl ?_
    intro a25 p25
    have s31 : a25.eval (.tmp 31) = undef := p25.at hs (by decide)
    replace hs := p25.st hs
    refine q_skip rfl rfl (((p25.ne rfl).trans (p24.ne rfl)).trans s29) rfl ?_
    intro a26 p26
    have s32 : a26.eval (.tmp 32) = undef := p26.at hs (by decide)
    replace hs := p26.st hs
    refine q_skip rfl rfl (((p26.ne rfl).trans ((p25.ne rfl).trans (p24.ne rfl))).trans s29) rfl ?_
    intro a27 p27
    have s33 : a27.eval (.tmp 33) = undef := p27.at hs (by decide)
    replace hs := p27.st hs
    refine q_skip rfl rfl (((p27.ne rfl).trans ((p26.ne rfl).trans ((p25.ne rfl).trans (p24.ne rfl)))).trans s29) rfl ?_
    intro a28 p28
    have s34 : a28.eval (.tmp 34) = undef := p28.at hs (by decide)
    replace hs := p28.st hs
    refine q_val rfl rfl ?_
    refine g_pick_f rfl (((p28.ne rfl).trans ((p27.ne rfl).trans ((p26.ne rfl).trans ((p25.ne rfl).trans (p24.ne rfl))))).trans s29) rfl ?_
    intro a29 p29
    have s35 : a29.eval (.tmp 35) = .bool false := p29.at hs (by decide)
    replace hs := p29.st hs
    refine wpList_nil ?_
    replace s2 : a29.eval (.tmp 2) = .pointer (some ⟨q2, 0, none⟩) := ((p29.ne rfl).trans ((p28.ne rfl).trans ((p27.ne rfl).trans ((p26.ne rfl).trans ((p25.ne rfl).trans ((p24.ne rfl).trans ((p23.ne rfl).trans ((p22.ne rfl).trans ((p21.ne rfl).trans (p20.ne rfl)))))))))).trans s2
    replace s3 : a29.eval (.tmp 3) = .pointer (some ⟨q4, 0, none⟩) := ((p29.ne rfl).trans ((p28.ne rfl).trans ((p27.ne rfl).trans ((p26.ne rfl).trans ((p25.ne rfl).trans ((p24.ne rfl).trans ((p23.ne rfl).trans ((p22.ne rfl).trans ((p21.ne rfl).trans (p20.ne rfl)))))))))).trans s3
    replace s4 : a29.eval (.tmp 4) = .pointer (some ⟨q6, 0, none⟩) := ((p29.ne rfl).trans ((p28.ne rfl).trans ((p27.ne rfl).trans ((p26.ne rfl).trans ((p25.ne rfl).trans ((p24.ne rfl).trans ((p23.ne rfl).trans ((p22.ne rfl).trans ((p21.ne rfl).trans (p20.ne rfl)))))))))).trans s4
    replace s5 : a29.eval (.tmp 5) = .slice none 0 0 := ((p29.ne rfl).trans ((p28.ne rfl).trans ((p27.ne rfl).trans ((p26.ne rfl).trans ((p25.ne rfl).trans ((p24.ne rfl).trans ((p23.ne rfl).trans ((p22.ne rfl).trans ((p21.ne rfl).trans (p20.ne rfl)))))))))).trans s5
    refine hK72 _ _ ?_
    clear hK72
    refine c_false s35 ?_
    refine wp_skip ?_
    have hvl : v = u := by rw [hv]; unfold lostU; rw [if_neg (fun h => h.1 hn1)]
    have hvr : v.rest.length ≤ 43 ∧ (v.sy = false → v.rest = []) ∧ 0 ≤ v.lost ∧ v.lost ≤ 1000001 := by rw [hvl]; exact ⟨hp5, hp4, by omega, by omega⟩
    replace h_q2 : w13.heap[q2]? = some (.cells #[.int .i64 v.ch, .int .i64 v.nx, .bool v.sy, .string ⟨(v.rest).toArray⟩, .int .i64 v.lost] 42 (0, 0)) := by rw [hvl]; exact h_q2
    exact jK14 _ _ ⟨hs, s2, s3, s4, s5, hB, h_q2, h_q4, h_q6, hvr⟩
  · replace s28 := s28.trans (congrArg (fun b => Value.bool (!b)) (decide_eq_false hn1))
    replace s28 : a22.eval (.tmp 28) = .bool true := s28
    replace s29 := s29.trans (congrArg (fun b => Value.bool (!b)) (decide_eq_false hn1))
    replace s29 : a23.eval (.tmp 29) = .bool true := s29
    refine q_take rfl rfl s29 rfl ?_
    refine g_field (r := 1) rfl (((p23.ne rfl).trans ((p22.ne rfl).trans ((p21.ne rfl).trans (p20.ne rfl)))).trans s2) Try.underlying42 rfl (fun w => Try.sizeOf3 w) rfl rfl ?_
    intro a24 p24
    have s30 : a24.eval (.tmp 30) = .pointer (some ⟨q2, 1, none⟩) := p24.at hs (by decide)
    replace hs := p24.st hs
    refine q_take rfl rfl ((p24.ne rfl).trans s29) rfl ?_
    refine g_load rfl s30 Try.isAgg3 (box_cell h_q2 rfl) ?_
    intro a25 p25
    have s31 : a25.eval (.tmp 31) = .int .i64 u.nx := p25.at hs (by decide)
    replace hs := p25.st hs
    refine q_take rfl rfl (((p25.ne rfl).trans (p24.ne rfl)).trans s29) rfl ?_
    refine g_field (r := 1) rfl (((p25.ne rfl).trans ((p24.ne rfl).trans ((p23.ne rfl).trans ((p22.ne rfl).trans ((p21.ne rfl).trans (p20.ne rfl)))))).trans s3) Try.underlying40 rfl (fun w => Try.sizeOf3 w) rfl rfl ?_
    intro a26 p26
    have s32 : a26.eval (.tmp 32) = .pointer (some ⟨q4, 1, none⟩) := p26.at hs (by decide)
    replace hs := p26.st hs
    refine q_take rfl rfl (((p26.ne rfl).trans ((p25.ne rfl).trans (p24.ne rfl))).trans s29) rfl ?_
    refine g_load rfl s32 Try.isAgg3 (box_cell h_q4 rfl) ?_
    intro a27 p27
    have s33 : a27.eval (.tmp 33) = .int .i64 x.f1 := p27.at hs (by decide)
    replace hs := p27.st hs
    refine q_take rfl rfl (((p27.ne rfl).trans ((p26.ne rfl).trans ((p25.ne rfl).trans (p24.ne rfl)))).trans s29) rfl ?_
    refine g_neq rfl (((p27.ne rfl).trans (p26.ne rfl)).trans s31) s33 ?_
    intro a28 p28
    have s34 : a28.eval (.tmp 34) = .bool (!decide (u.nx = x.f1)) := p28.at hs (by decide)
    replace hs := p28.st hs
    refine q_val rfl rfl ?_
    refine g_pick_t rfl (((p28.ne rfl).trans ((p27.ne rfl).trans ((p26.ne rfl).trans ((p25.ne rfl).trans (p24.ne rfl))))).trans s29) s34 ?_
    intro a29 p29
    have s35 : a29.eval (.tmp 35) = .bool (!decide (u.nx = x.f1)) := p29.at hs (by decide)
    replace hs := p29.st hs
    refine wpList_nil ?_
    replace s2 : a29.eval (.tmp 2) = .pointer (some ⟨q2, 0, none⟩) := ((p29.ne rfl).trans ((p28.ne rfl).trans ((p27.ne rfl).trans ((p26.ne rfl).trans ((p25.ne rfl).trans ((p24.ne rfl).trans ((p23.ne rfl).trans ((p22.ne rfl).trans ((p21.ne rfl).trans (p20.ne rfl)))))))))).trans s2
    replace s3 : a29.eval (.tmp 3) = .pointer (some ⟨q4, 0, none⟩) := ((p29.ne rfl).trans ((p28.ne rfl).trans ((p27.ne rfl).trans ((p26.ne rfl).trans ((p25.ne rfl).trans ((p24.ne rfl).trans ((p23.ne rfl).trans ((p22.ne rfl).trans ((p21.ne rfl).trans (p20.ne rfl)))))))))).trans s3
    replace s4 : a29.eval (.tmp 4) = .pointer (some ⟨q6, 0, none⟩) := ((p29.ne rfl).trans ((p28.ne rfl).trans ((p27.ne rfl).trans ((p26.ne rfl).trans ((p25.ne rfl).trans ((p24.ne rfl).trans ((p23.ne rfl).trans ((p22.ne rfl).trans ((p21.ne rfl).trans (p20.ne rfl)))))))))).trans s4
    replace s5 : a29.eval (.tmp 5) = .slice none 0 0 := ((p29.ne rfl).trans ((p28.ne rfl).trans ((p27.ne rfl).trans ((p26.ne rfl).trans ((p25.ne rfl).trans ((p24.ne rfl).trans ((p23.ne rfl).trans ((p22.ne rfl).trans ((p21.ne rfl).trans (p20.ne rfl)))))))))).trans s5
    refine hK72 _ _ ?_
    clear hK72
    by_cases hn2 : u.nx = x.f1
    · replace s35 := s35.trans (congrArg (fun b => Value.bool (!b)) (decide_eq_true hn2))
      replace s35 : a29.eval (.tmp 35) = .bool false := s35
      refine c_false s35 ?_
      refine wp_skip ?_
      have hvl : v = u := by rw [hv]; unfold lostU; rw [if_neg (fun h => h.2 hn2)]
      have hvr : v.rest.length ≤ 43 ∧ (v.sy = false → v.rest = []) ∧ 0 ≤ v.lost ∧ v.lost ≤ 1000001 := by rw [hvl]; exact ⟨hp5, hp4, by omega, by omega⟩
      replace h_q2 : w13.heap[q2]? = some (.cells #[.int .i64 v.ch, .int .i64 v.nx, .bool v.sy, .string ⟨(v.rest).toArray⟩, .int .i64 v.lost] 42 (0, 0)) := by rw [hvl]; exact h_q2
      exact jK14 _ _ ⟨hs, s2, s3, s4, s5, hB, h_q2, h_q4, h_q6, hvr⟩
    · replace s35 := s35.trans (congrArg (fun b => Value.bool (!b)) (decide_eq_false hn2))
      replace s35 : a29.eval (.tmp 35) = .bool true := s35
      refine c_true s35 ?_
      refine wp_region_lit ?_
      refine q_val rfl rfl ?_
      refine g_loadB rfl s2 Try.isAgg42 Try.sizeOf42 rfl h_q2 ?_
      intro a30 p30
      have s36 : a30.eval (.tmp 36) = .agg #[.int .i64 u.ch, .int .i64 u.nx, .bool u.sy, .string ⟨(u.rest).toArray⟩, .int .i64 u.lost] := p30.at hs (by decide)
      replace hs := p30.st hs
      refine q_val rfl rfl ?_
      refine g_call rfl rfl Try.call61 (arr1 s36) ?_
      refine (losePart_any (u := ⟨u.ch, u.nx, u.sy, u.rest, u.lost⟩) _ (by simp only; omega)).mono ?_
      rintro e w74 ⟨rfl, hb73⟩
      refine ⟨_, rfl, ?_⟩
      replace h_q2 := keep_below h_q2 hb73
      replace h_q4 := keep_below h_q4 hb73
      replace h_q6 := keep_below h_q6 hb73
      replace hB := hB.trans (hb73.mono hB.size)
      clear hb73
      intro a31 p31
      have s37 : a31.eval (.tmp 37) = .agg #[.int .i64 ((loseU (⟨u.ch, u.nx, u.sy, u.rest, u.lost⟩ : EUnp)).ch), .int .i64 ((loseU (⟨u.ch, u.nx, u.sy, u.rest, u.lost⟩ : EUnp)).nx), .bool ((loseU (⟨u.ch, u.nx, u.sy, u.rest, u.lost⟩ : EUnp)).sy), .string ⟨((loseU (⟨u.ch, u.nx, u.sy, u.rest, u.lost⟩ : EUnp)).rest).toArray⟩, .int .i64 ((loseU (⟨u.ch, u.nx, u.sy, u.rest, u.lost⟩ : EUnp)).lost)] := p31.at hs (by decide)
      replace hs := p31.st hs
      refine q_eff rfl rfl ?_
      refine g_storeB rfl (((p31.ne rfl).trans (p30.ne rfl)).trans s2) s37 Try.sizeOf42 rfl rfl h_q2 rfl ?_
      intro w75 W_w75
      replace h_q2 := W_w75.here
      replace h_q4 := keep_wrote h_q4 W_w75 n_q2_q4
      replace h_q6 := keep_wrote h_q6 W_w75 n_q2_q6
      replace hB := below_wrote hB hB.size W_w75 g_q2.le
      clear W_w75
      refine wpList_nil ?_
      replace s2 : a31.eval (.tmp 2) = .pointer (some ⟨q2, 0, none⟩) := ((p31.ne rfl).trans (p30.ne rfl)).trans s2
      replace s3 : a31.eval (.tmp 3) = .pointer (some ⟨q4, 0, none⟩) := ((p31.ne rfl).trans (p30.ne rfl)).trans s3
      replace s4 : a31.eval (.tmp 4) = .pointer (some ⟨q6, 0, none⟩) := ((p31.ne rfl).trans (p30.ne rfl)).trans s4
      replace s5 : a31.eval (.tmp 5) = .slice none 0 0 := ((p31.ne rfl).trans (p30.ne rfl)).trans s5
      have hvl : v = loseU u := by rw [hv]; unfold lostU; rw [if_pos ⟨hn1, hn2⟩]
      have hvr : v.rest.length ≤ 43 ∧ (v.sy = false → v.rest = []) ∧ 0 ≤ v.lost ∧ v.lost ≤ 1000001 := by rw [hvl]; exact ⟨by simp [loseU], fun _ => rfl, by unfold loseU; simp only; split <;> omega, by unfold loseU; simp only; split <;> omega⟩
      replace h_q2 : w75.heap[q2]? = some (.cells #[.int .i64 v.ch, .int .i64 v.nx, .bool v.sy, .string ⟨(v.rest).toArray⟩, .int .i64 v.lost] 42 (0, 0)) := by rw [hvl]; exact h_q2
      exact jK14 _ _ ⟨hs, s2, s3, s4, s5, hB, h_q2, h_q4, h_q6, hvr⟩
end Go.Proofs.Ytmcgmiapbdoocaa
