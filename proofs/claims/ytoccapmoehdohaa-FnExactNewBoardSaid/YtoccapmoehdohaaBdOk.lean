/- Contracts: orders that wait, in the reference; boards that are valid, in the program and in the reference. No condition. -/
import Derived.Test.YtoccapmoehdohaaBdOrd
namespace Go.Proofs.Ytoccapmoehdohaa
open Go.RowKit
set_option linter.unusedSimpArgs false
set_option linter.unusedVariables false

theorem fresh_no {os : List EWaiting} {i k : Nat} (hi : i < k) (hk : k < os.length) (h : os[i].f0 = os[k].f0) : ¬ idxO os os[k].f0 = (k : Int) := by
  rcases idxO_cases os os[k].f0 with ⟨_, h2⟩ | ⟨j, hj, h1, h2, h3⟩
  · exact absurd h (h2 i (by omega))
  · intro h4
    have : j = k := by omega
    subst this
    exact h3 i hi h
theorem fresh_yes {os : List EWaiting} {k : Nat} (hk : k < os.length) (h : ∀ j (_ : j < k) (hj : j < os.length), os[j].f0 ≠ os[k].f0) : idxO os os[k].f0 = (k : Int) := idxO_at hk rfl (fun j hj => h j hj (by omega))
set_option maxRecDepth 100000 in
set_option maxHeartbeats 4000000 in
theorem l05Orders_any {S : BSl} {b : EBoard} (w : World) (hR : RdB w S b) (hW : BdW b) (ht0 : 0 ≤ b.taken) (ht1 : b.taken ≤ 65535) :
    Calls Try.prog 60 #[bdV S b] w fun e w' => e = .returned (.bool (osOk b.taken b.os)) ∧ Below w.heap.size w w' := by
  obtain ⟨⟨pA, pn, pc⟩, ⟨lA, ln, lc⟩, ⟨oA, on, oc⟩, ⟨dA, dn, dc⟩, ⟨rA, rn, rc⟩, ⟨xA, xn, xc⟩, ⟨qA, qn, qc⟩⟩ := S
  obtain ⟨⟨hr_p, hl_p, hnn_p, hnc_p⟩, ⟨hr_l, hl_l, hnn_l, hnc_l⟩, ⟨hr_o, hl_o, hnn_o, hnc_o⟩, ⟨hr_d, hl_d, hnn_d, hnc_d⟩, ⟨hr_r, hl_r, hnn_r, hnc_r⟩, ⟨hr_x, hl_x, hnn_x, hnc_x⟩, ⟨hr_q, hl_q, hnn_q, hnc_q⟩⟩ := hR
  change b.ps.length = pn at hl_p
  subst pn
  change Rd _ 1 pA b.ps.length (b.ps.flatMap cI) at hr_p
  change pA = none → b.ps.length = 0 ∧ pc = 0 at hnn_p
  change b.ps.length ≤ pc at hnc_p
  change b.ls.length = ln at hl_l
  subst ln
  change Rd _ 3 lA b.ls.length (b.ls.flatMap cLimit) at hr_l
  change lA = none → b.ls.length = 0 ∧ lc = 0 at hnn_l
  change b.ls.length ≤ lc at hnc_l
  change b.os.length = on at hl_o
  subst on
  change Rd _ 5 oA b.os.length (b.os.flatMap cWaiting) at hr_o
  change oA = none → b.os.length = 0 ∧ oc = 0 at hnn_o
  change b.os.length ≤ oc at hnc_o
  change b.ds.length = dn at hl_d
  subst dn
  change Rd _ 3 dA b.ds.length (b.ds.flatMap cDone) at hr_d
  change dA = none → b.ds.length = 0 ∧ dc = 0 at hnn_d
  change b.ds.length ≤ dc at hnc_d
  change b.rs.length = rn at hl_r
  subst rn
  change Rd _ 4 rA b.rs.length (b.rs.flatMap cRecord) at hr_r
  change rA = none → b.rs.length = 0 ∧ rc = 0 at hnn_r
  change b.rs.length ≤ rc at hnc_r
  change b.xs.length = xn at hl_x
  subst xn
  change Rd _ 1 xA b.xs.length (b.xs.flatMap cI) at hr_x
  change xA = none → b.xs.length = 0 ∧ xc = 0 at hnn_x
  change b.xs.length ≤ xc at hnc_x
  change b.qs.length = qn at hl_q
  subst qn
  change Rd _ 1 qA b.qs.length (b.qs.flatMap cI) at hr_q
  change qA = none → b.qs.length = 0 ∧ qc = 0 at hnn_q
  change b.qs.length ≤ qc at hnc_q
  have hW1 := hW.ps
  have hW2 := hW.ls
  have hW3 := hW.os
  have hW4 := hW.ds
  have hW5 := hW.rs
  have hW6 := hW.xs
  have hW7 := hW.qs
  refine enter 91 Try.func60 rfl rfl (Nat.le_of_ble_eq_true rfl) ?_
  intro a0 hs hargs
  have s0 : a0.eval (.tmp 0) = .agg #[.int .i64 b.clk, .slice pA b.ps.length pc, .bool b.safe, .slice lA b.ls.length lc, .slice oA b.os.length oc, .slice dA b.ds.length dc, .int .i64 b.room, .slice rA b.rs.length rc, .slice xA b.xs.length xc, .int .i64 b.made, .int .i64 b.taken, .slice qA b.qs.length qc] := hargs 0 _ rfl
  clear hargs
  have hB : Below w.heap.size w w := Below.refl _ _
  refine wp_seq_k fun K1 hK1 => ?_
  refine wp_region_lit ?_
  refine q_v hs rfl rfl rfl ?_
  refine g_box rfl s0 rfl ?_
  intro q2 w3 N_q2
  replace hB := below_new hB hB.size N_q2
  have h_q2 := N_q2.here
  clear N_q2
  intro a1 p1
  refine q_v p1.s rfl rfl rfl (g_assign rfl rfl ?_)
  intro a2 p2
  have s2 : a2.eval (.tmp 2) = .bool false := p2.v
  refine wpList_nil ?_
  replace s1 := p2.k p1.v rfl
  refine hK1 _ _ ?_
  clear hK1
  refine wp_seq_k fun K4 hK4 => ?_
  refine wp_seq_k fun K5 hK5 => ?_
  refine wp_region_lit ?_
  refine q_v p2.s rfl rfl rfl (g_field (r := 4) rfl s1 Try.underlying32 rfl (fun w => Try.sizeOf26 w) rfl rfl ?_)
  intro a3 p3
  refine q_v p3.s rfl rfl rfl (g_load rfl p3.v Try.isAgg26 (box_cell h_q2 rfl) ?_)
  intro a4 p4
  refine q_v p4.s rfl rfl rfl (g_len (e := _) rfl Try.underlying26 p4.v ?_)
  intro a5 p5
  refine q_v p5.s rfl rfl rfl (g_gtr rfl p5.v rfl ?_)
  intro a6 p6
  refine wpList_nil ?_
  have kc2 := ((((Kps.nil a2).u p3).u p4).u p5).u p6
  replace s1 := kc2.k s1 rfl
  replace s2 := kc2.k s2 rfl
  replace s9 := p6.v
  clear kc2
  refine hK5 _ _ ?_
  clear hK5
  by_cases hc6 : 40 < ((b.os.length : Nat) : Int)
  · replace s9 : a6.eval (.tmp 9) = .bool true := (s9).trans (congrArg Value.bool (decide_eq_true hc6))
    refine c_true s9 ?_
    refine wp_seq_k fun K7 hK7 => ?_
    refine wp_region_lit ?_
    refine q_v p6.s rfl rfl rfl (g_assign rfl rfl ?_)
    intro a7 p7
    have s2 : a7.eval (.tmp 2) = .bool false := p7.v
    refine wpList_nil ?_
    replace s1 := p7.k s1 rfl
    refine hK7 _ _ ?_
    clear hK7
    refine wp_ret ?_
    try dsimp only [Exit.then, Exit.inBlock]
    refine ret1 p7.s Try.results60 (res_tmp s2) ?_
    exact ⟨by unfold osOk; rw [decide_eq_false (by omega : ¬ b.os.length ≤ 40)]; rfl, hB⟩
  replace s9 : a6.eval (.tmp 9) = .bool false := (s9).trans (congrArg Value.bool (decide_eq_false hc6))
  refine c_false s9 ?_
  refine wp_skip ?_
  refine hK4 _ _ ?_
  clear hK4
  refine wp_seq_k fun K8 hK8 => ?_
  refine wp_seq_k fun K9 hK9 => ?_
  refine wp_region_lit ?_
  refine q_v p6.s rfl rfl rfl (g_assign rfl rfl ?_)
  intro a7 p7
  have s3 : a7.eval (.tmp 3) = .int .i64 0 := p7.v
  refine wpList_nil ?_
  replace s1 := p7.k s1 rfl
  replace s2 := p7.k s2 rfl
  refine hK9 _ _ ?_
  clear hK9
  refine wp_block ?_
  refine wp_loop (fun a wr => ∃ (k : Nat), (St 91 a) ∧ (a.eval (.tmp 1) = .pointer (some ⟨q2, 0, none⟩)) ∧ (a.eval (.tmp 2) = .bool false) ∧ (a.eval (.tmp 3) = .int .i64 ((k : Nat) : Int)) ∧ (Below w.heap.size w wr) ∧ (wr.heap[q2]? = some (.cells #[.int .i64 b.clk, .slice pA b.ps.length pc, .bool b.safe, .slice lA b.ls.length lc, .slice oA b.os.length oc, .slice dA b.ds.length dc, .int .i64 b.room, .slice rA b.rs.length rc, .slice xA b.xs.length xc, .int .i64 b.made, .int .i64 b.taken, .slice qA b.qs.length qc] 32 (0, 0))) ∧ (k ≤ b.os.length) ∧ (osTo b.taken b.os k = true)) (fun a _ => b.os.length - (intOf (a.eval (.tmp 3))).toNat) (⟨0, p7.s, s1, s2, s3, hB, h_q2, Nat.zero_le _, rfl⟩) ?_
  intro a8 w11 hIv
  obtain ⟨k, hs, s1, s2, s3, hB, h_q2, hk, hst⟩ := hIv
  have mu12 := s3
  refine wp_seq_k fun K13 hK13 => ?_
  refine wp_seq_k fun K14 hK14 => ?_
  refine wp_region_lit ?_
  refine q_v hs rfl rfl rfl (g_move rfl s3 ?_)
  intro a9 p9
  refine q_v p9.s rfl rfl rfl (g_field (r := 4) rfl (p9.k s1 rfl) Try.underlying32 rfl (fun w => Try.sizeOf26 w) rfl rfl ?_)
  intro a10 p10
  refine q_v p10.s rfl rfl rfl (g_load rfl p10.v Try.isAgg26 (box_cell h_q2 rfl) ?_)
  intro a11 p11
  refine q_v p11.s rfl rfl rfl (g_len (e := _) rfl Try.underlying26 p11.v ?_)
  intro a12 p12
  refine q_v p12.s rfl rfl rfl (g_lss rfl (p12.k (p11.k (p10.k p9.v rfl) rfl) rfl) p12.v ?_)
  intro a13 p13
  refine wpList_nil ?_
  have kc8 := (((((Kps.nil a8).u p9).u p10).u p11).u p12).u p13
  replace s1 := kc8.k s1 rfl
  replace s2 := kc8.k s2 rfl
  replace s3 := kc8.k s3 rfl
  replace s14 := p13.v
  clear kc8
  refine hK14 _ _ ?_
  clear hK14
  by_cases hc15 : ((k : Nat) : Int) < ((b.os.length : Nat) : Int)
  · replace s14 : a13.eval (.tmp 14) = .bool true := (s14).trans (congrArg Value.bool (decide_eq_true hc15))
    refine c_true s14 ?_
    refine wp_skip ?_
    refine hK13 _ _ ?_
    clear hK13
    refine wp_seq_k fun K16 hK16 => ?_
    refine wp_block ?_
    refine wp_seq_k fun K17 hK17 => ?_
    have hlt : k < b.os.length := by omega
    refine wp_region_lit ?_
    refine q_v p13.s rfl rfl rfl (g_field (r := 4) rfl s1 Try.underlying32 rfl (fun w => Try.sizeOf26 w) rfl rfl ?_)
    intro a14 p14
    refine q_v p14.s rfl rfl rfl (g_load rfl p14.v Try.isAgg26 (box_cell h_q2 rfl) ?_)
    intro a15 p15
    refine q_v p15.s rfl rfl rfl (g_move rfl (p15.k (p14.k s3 rfl) rfl) ?_)
    intro a16 p16
    obtain ⟨b18, o19, hA20, hl_hc21, hc21⟩ := Rd.get cWaiting_len (hr_o.below hB) rfl (i := k) (by omega)
    refine q_v p16.s rfl rfl rfl (g_index (r := o19 + k * 5) (k := k) rfl ((p16.k p15.v rfl).trans (slice_at hA20)) p16.v Try.underlying26 (fun w => Try.sizeOf45 w) (by omega) rfl ?_)
    intro a17 p17
    refine q_v p17.s rfl rfl rfl (g_loadA (l := cWaiting b.os[k]) rfl p17.v Try.isAgg45 Try.sizeOf45 rfl (fun j u hu => by rw [Nat.add_assoc]; exact hc21 j u (by have := (List.getElem?_eq_some_iff.1 hu).1; exact this) hu) ?_)
    intro a18 p18
    refine q_v p18.s rfl rfl rfl ?_
    refine g_alloc rfl Try.zeroValue45 rfl ?_
    intro q22 w23 N_q22
    have n_q2_q22 := N_q22.ne ⟨lt_of_block h_q2⟩
    have n_q22_q2 := n_q2_q22.symm
    have g_q22 : GeB w.heap.size q22 := ⟨Nat.le_trans hB.size N_q22.lo⟩
    replace h_q2 := keep_below h_q2 N_q22.below
    replace hB := below_new hB hB.size N_q22
    have h_q22 := N_q22.here
    clear N_q22
    intro a19 p19
    refine q_eff rfl rfl ?_
    refine g_storeB rfl p19.v (p19.k p18.v rfl) Try.sizeOf45 rfl rfl h_q22 rfl ?_
    intro w24 W_w24
    replace h_q2 := keep_wrote h_q2 W_w24 n_q22_q2
    replace h_q22 := W_w24.here
    replace hB := below_wrote hB hB.size W_w24 g_q22.le
    clear W_w24
    refine wpList_nil ?_
    have kc13 := ((((((Kps.nil a13).u p14).u p15).u p16).u p17).u p18).u p19
    replace s1 := kc13.k s1 rfl
    replace s2 := kc13.k s2 rfl
    replace s3 := kc13.k s3 rfl
    replace s14 := kc13.k s14 rfl
    replace s4 := p19.v
    clear kc13
    refine hK17 _ _ ?_
    clear hK17
    refine wp_seq_k fun K25 hK25 => ?_
    refine wp_seq_k fun K26 hK26 => ?_
    refine wp_region_lit ?_
    refine q_v p19.s rfl rfl rfl (g_field (r := 1) rfl s4 Try.underlying45 rfl (fun w => Try.sizeOf40 w) rfl rfl ?_)
    intro a20 p20
    refine q_v p20.s rfl rfl rfl (g_loadA (l := [.int .i64 (b.os[k].f1), .int .i64 (b.os[k].f2), .int .i64 (b.os[k].f3), .int .i64 (b.os[k].f4)]) rfl p20.v Try.isAgg40 Try.sizeOf40 rfl (box_part h_q22 rfl) ?_)
    intro a21 p21
    refine q_v p21.s rfl rfl rfl ?_
    refine g_call rfl rfl Try.call81 (arr1 p21.v) ?_
    refine (sOrderOk_any _ _ _ _ _).mono ?_
    rintro e w28 ⟨rfl, hb27⟩
    refine ⟨_, rfl, ?_⟩
    replace h_q2 := keep_below h_q2 hb27
    replace h_q22 := keep_below h_q22 hb27
    replace hB := hB.trans (hb27.mono hB.size)
    clear hb27
    intro a22 p22
    refine q_v p22.s rfl rfl rfl (g_not rfl p22.v ?_)
    intro a23 p23
    refine q_v p23.s rfl rfl rfl (g_move rfl p23.v ?_)
    intro a24 p24
    cases hc29 : ordOk (b.os[k].f1) (b.os[k].f2) (b.os[k].f3) (b.os[k].f4)
    · have s24 : a22.eval (.tmp 24) = .bool false := (p22.v).trans (congrArg Value.bool hc29)
      have s25 : a23.eval (.tmp 25) = .bool true := (p23.v).trans (congrArg (fun b => Value.bool (!b)) hc29)
      have s26 : a24.eval (.tmp 26) = .bool true := (p24.v).trans (congrArg (fun b => Value.bool (!b)) hc29)
      refine q_s p24.s rfl rfl s26 rfl rfl ?_
      intro a25 p25
      refine q_s p25.s rfl rfl (p25.k s26 rfl) rfl rfl ?_
      intro a26 p26
      refine q_s p26.s rfl rfl (p26.k (p25.k s26 rfl) rfl) rfl rfl ?_
      intro a27 p27
      refine q_s p27.s rfl rfl (p27.k (p26.k (p25.k s26 rfl) rfl) rfl) rfl rfl ?_
      intro a28 p28
      refine q_s p28.s rfl rfl (p28.k (p27.k (p26.k (p25.k s26 rfl) rfl) rfl) rfl) rfl rfl ?_
      intro a29 p29
      refine q_s p29.s rfl rfl (p29.k (p28.k (p27.k (p26.k (p25.k s26 rfl) rfl) rfl) rfl) rfl) rfl rfl ?_
      intro a30 p30
      refine q_s p30.s rfl rfl (p30.k (p29.k (p28.k (p27.k (p26.k (p25.k s26 rfl) rfl) rfl) rfl) rfl) rfl) rfl rfl ?_
      intro a31 p31
      refine q_v p31.s rfl rfl rfl (g_pick_t rfl (p31.k (p30.k (p29.k (p28.k (p27.k (p26.k (p25.k s26 rfl) rfl) rfl) rfl) rfl) rfl) rfl) rfl ?_)
      intro a32 p32
      have s34 : a32.eval (.tmp 34) = .bool true := p32.v
      refine wpList_nil ?_
      have kc19 := (((((((((((((Kps.nil a19).u p20).u p21).u p22).u p23).u p24).u p25).u p26).u p27).u p28).u p29).u p30).u p31).u p32
      replace s1 := kc19.k s1 rfl
      replace s2 := kc19.k s2 rfl
      replace s3 := kc19.k s3 rfl
      replace s14 := kc19.k s14 rfl
      replace s4 := kc19.k s4 rfl
      clear kc19
      refine hK26 _ _ ?_
      clear hK26
      refine c_true s34 ?_
      refine wp_seq_k fun K30 hK30 => ?_
      refine wp_region_lit ?_
      refine q_v p32.s rfl rfl rfl (g_assign rfl rfl ?_)
      intro a33 p33
      have s2 : a33.eval (.tmp 2) = .bool false := p33.v
      refine wpList_nil ?_
      replace s1 := p33.k s1 rfl
      replace s3 := p33.k s3 rfl
      replace s14 := p33.k s14 rfl
      replace s4 := p33.k s4 rfl
      replace s34 := p33.k s34 rfl
      refine hK30 _ _ ?_
      clear hK30
      refine wp_ret ?_
      try dsimp only [Exit.then, Exit.inBlock]
      refine ret1 p33.s Try.results60 (res_tmp s2) ?_
      have hat : osAt b.taken b.os k = false := by unfold osAt freshO sortO; rw [wAt_eq hlt]; simp only [decide_eq_true hc15, hc29, Bool.and_true, Bool.true_and, Bool.and_false, Bool.false_and, Bool.or_true, Bool.true_or, Bool.or_false, Bool.false_or, Bool.not_true, Bool.not_false, Bool.and_self]
      exact ⟨by unfold osOk; rw [osTo_fail hlt hat, Bool.and_false], hB⟩
    have s24 : a22.eval (.tmp 24) = .bool true := (p22.v).trans (congrArg Value.bool hc29)
    have s25 : a23.eval (.tmp 25) = .bool false := (p23.v).trans (congrArg (fun b => Value.bool (!b)) hc29)
    have s26 : a24.eval (.tmp 26) = .bool false := (p24.v).trans (congrArg (fun b => Value.bool (!b)) hc29)
    refine q_t p24.s rfl rfl s26 rfl rfl (g_field (r := 0) rfl (p24.k (p23.k (p22.k (p21.k (p20.k s4 rfl) rfl) rfl) rfl) rfl) Try.underlying45 rfl (fun w => Try.sizeOf3 w) rfl rfl ?_)
    intro a25 p25
    refine q_t p25.s rfl rfl (p25.k s26 rfl) rfl rfl (g_load rfl p25.v Try.isAgg3 (box_cell h_q22 rfl) ?_)
    intro a26 p26
    refine q_t p26.s rfl rfl (p26.k (p25.k s26 rfl) rfl) rfl rfl (g_field (r := 10) rfl (p26.k (p25.k (p24.k (p23.k (p22.k (p21.k (p20.k s1 rfl) rfl) rfl) rfl) rfl) rfl) rfl) Try.underlying32 rfl (fun w => Try.sizeOf3 w) rfl rfl ?_)
    intro a27 p27
    refine q_t p27.s rfl rfl (p27.k (p26.k (p25.k s26 rfl) rfl) rfl) rfl rfl (g_load rfl p27.v Try.isAgg3 (box_cell h_q2 rfl) ?_)
    intro a28 p28
    refine q_t p28.s rfl rfl (p28.k (p27.k (p26.k (p25.k s26 rfl) rfl) rfl) rfl) rfl rfl (g_sub (r := b.taken - 1) rfl p28.v rfl (by omega) (by omega) ?_)
    intro a29 p29
    refine q_t p29.s rfl rfl (p29.k (p28.k (p27.k (p26.k (p25.k s26 rfl) rfl) rfl) rfl) rfl) rfl rfl ?_
    refine g_call rfl rfl Try.call58 (arr3 (p29.k (p28.k (p27.k p26.v rfl) rfl) rfl) rfl p29.v) ?_
    refine (l01In_any _ _ _ _).mono ?_
    rintro e w' ⟨rfl, rfl⟩
    refine ⟨_, rfl, ?_⟩
    intro a30 p30
    refine q_t p30.s rfl rfl (p30.k (p29.k (p28.k (p27.k (p26.k (p25.k s26 rfl) rfl) rfl) rfl) rfl) rfl) rfl rfl (g_not rfl p30.v ?_)
    intro a31 p31
    refine q_v p31.s rfl rfl rfl (g_pick_f rfl (p31.k (p30.k (p29.k (p28.k (p27.k (p26.k (p25.k s26 rfl) rfl) rfl) rfl) rfl) rfl) rfl) p31.v ?_)
    intro a32 p32
    have s34 : a32.eval (.tmp 34) = .bool (!(inB (b.os[k].f0) 0 (b.taken - 1))) := p32.v
    refine wpList_nil ?_
    have kc19 := (((((((((((((Kps.nil a19).u p20).u p21).u p22).u p23).u p24).u p25).u p26).u p27).u p28).u p29).u p30).u p31).u p32
    replace s1 := kc19.k s1 rfl
    replace s2 := kc19.k s2 rfl
    replace s3 := kc19.k s3 rfl
    replace s14 := kc19.k s14 rfl
    replace s4 := kc19.k s4 rfl
    clear kc19
    refine hK26 _ _ ?_
    clear hK26
    cases hc31 : inB (b.os[k].f0) 0 (b.taken - 1)
    · replace s34 : a32.eval (.tmp 34) = .bool true := (s34).trans (congrArg (fun b => Value.bool (!b)) hc31)
      refine c_true s34 ?_
      refine wp_seq_k fun K32 hK32 => ?_
      refine wp_region_lit ?_
      refine q_v p32.s rfl rfl rfl (g_assign rfl rfl ?_)
      intro a33 p33
      have s2 : a33.eval (.tmp 2) = .bool false := p33.v
      refine wpList_nil ?_
      replace s1 := p33.k s1 rfl
      replace s3 := p33.k s3 rfl
      replace s14 := p33.k s14 rfl
      replace s4 := p33.k s4 rfl
      replace s34 := p33.k s34 rfl
      refine hK32 _ _ ?_
      clear hK32
      refine wp_ret ?_
      try dsimp only [Exit.then, Exit.inBlock]
      refine ret1 p33.s Try.results60 (res_tmp s2) ?_
      have hat : osAt b.taken b.os k = false := by unfold osAt freshO sortO; rw [wAt_eq hlt]; simp only [decide_eq_true hc15, hc29, hc31, Bool.and_true, Bool.true_and, Bool.and_false, Bool.false_and, Bool.or_true, Bool.true_or, Bool.or_false, Bool.false_or, Bool.not_true, Bool.not_false, Bool.and_self]
      exact ⟨by unfold osOk; rw [osTo_fail hlt hat, Bool.and_false], hB⟩
    replace s34 : a32.eval (.tmp 34) = .bool false := (s34).trans (congrArg (fun b => Value.bool (!b)) hc31)
    refine c_false s34 ?_
    refine wp_skip ?_
    refine hK25 _ _ ?_
    clear hK25
    refine wp_seq_k fun K33 hK33 => ?_
    refine wp_seq_k fun K34 hK34 => ?_
    refine wp_region_lit ?_
    refine q_v p32.s rfl rfl rfl (g_assign rfl rfl ?_)
    intro a33 p33
    have s5 : a33.eval (.tmp 5) = .int .i64 0 := p33.v
    refine wpList_nil ?_
    replace s1 := p33.k s1 rfl
    replace s2 := p33.k s2 rfl
    replace s3 := p33.k s3 rfl
    replace s14 := p33.k s14 rfl
    replace s4 := p33.k s4 rfl
    replace s34 := p33.k s34 rfl
    refine hK34 _ _ ?_
    clear hK34
    refine wp_block ?_
    refine wp_loop (fun a wr => ∃ (i : Nat), (St 91 a) ∧ (a.eval (.tmp 1) = .pointer (some ⟨q2, 0, none⟩)) ∧ (a.eval (.tmp 2) = .bool false) ∧ (a.eval (.tmp 3) = .int .i64 ((k : Nat) : Int)) ∧ (a.eval (.tmp 4) = .pointer (some ⟨q22, 0, none⟩)) ∧ (a.eval (.tmp 5) = .int .i64 ((i : Nat) : Int)) ∧ (a.eval (.tmp 14) = .bool true) ∧ (a.eval (.tmp 34) = .bool false) ∧ (Below w.heap.size w wr) ∧ (wr.heap[q2]? = some (.cells #[.int .i64 b.clk, .slice pA b.ps.length pc, .bool b.safe, .slice lA b.ls.length lc, .slice oA b.os.length oc, .slice dA b.ds.length dc, .int .i64 b.room, .slice rA b.rs.length rc, .slice xA b.xs.length xc, .int .i64 b.made, .int .i64 b.taken, .slice qA b.qs.length qc] 32 (0, 0))) ∧ (wr.heap[q22]? = some (.cells #[.int .i64 (b.os[k].f0), .int .i64 (b.os[k].f1), .int .i64 (b.os[k].f2), .int .i64 (b.os[k].f3), .int .i64 (b.os[k].f4)] 45 (0, 0))) ∧ (i ≤ k) ∧ (∀ j (_ : j < i) (h : j < b.os.length), b.os[j].f0 ≠ b.os[k].f0)) (fun a _ => k - (intOf (a.eval (.tmp 5))).toNat) (⟨0, p33.s, s1, s2, s3, s4, s5, s14, s34, hB, h_q2, h_q22, Nat.zero_le _, (fun j hj => by omega)⟩) ?_
    intro a34 w36 hIv
    obtain ⟨i, hs, s1, s2, s3, s4, s5, s14, s34, hB, h_q2, h_q22, hi, hno⟩ := hIv
    have mu37 := s5
    refine wp_seq_k fun K38 hK38 => ?_
    refine wp_seq_k fun K39 hK39 => ?_
    refine wp_region_lit ?_
    refine q_v hs rfl rfl rfl (g_move rfl s5 ?_)
    intro a35 p35
    refine q_v p35.s rfl rfl rfl (g_move rfl (p35.k s3 rfl) ?_)
    intro a36 p36
    refine q_v p36.s rfl rfl rfl (g_lss rfl (p36.k p35.v rfl) p36.v ?_)
    intro a37 p37
    refine wpList_nil ?_
    have kc34 := (((Kps.nil a34).u p35).u p36).u p37
    replace s1 := kc34.k s1 rfl
    replace s2 := kc34.k s2 rfl
    replace s3 := kc34.k s3 rfl
    replace s14 := kc34.k s14 rfl
    replace s4 := kc34.k s4 rfl
    replace s34 := kc34.k s34 rfl
    replace s5 := kc34.k s5 rfl
    replace s37 := p37.v
    clear kc34
    refine hK39 _ _ ?_
    clear hK39
    by_cases hc40 : ((i : Nat) : Int) < ((k : Nat) : Int)
    · replace s37 : a37.eval (.tmp 37) = .bool true := (s37).trans (congrArg Value.bool (decide_eq_true hc40))
      refine c_true s37 ?_
      refine wp_skip ?_
      refine hK38 _ _ ?_
      clear hK38
      refine wp_seq_k fun K41 hK41 => ?_
      refine wp_block ?_
      refine wp_seq_k fun K42 hK42 => ?_
      have hlti : i < b.os.length := by omega
      have hs := p37.s
      obtain ⟨b43, o44, hA45, hl_hc46, hc46⟩ := Rd.get cWaiting_len (hr_o.below hB) rfl (i := i) (by omega)
      refine wp_drawn (n := 91) [] [] [] (fun k_ v_ _wx => match k_ with | 0 => v_ = .pointer (some ⟨q2, 4, none⟩) | 1 => v_ = .slice oA b.os.length oc | 2 => v_ = .int .i64 ((i : Nat) : Int) | 3 => v_ = .pointer (some ⟨b43, o44 + i * 5, none⟩) | 4 => v_ = .pointer (some ⟨b43, o44 + i * 5, none⟩) | 5 => v_ = .int .i64 (b.os[i].f0) | 6 => v_ = .pointer (some ⟨q22, 0, none⟩) | 7 => v_ = .int .i64 (b.os[k].f0) | 8 => v_ = .bool (decide (b.os[i].f0 = b.os[k].f0)) | _ => True) (by kernel_rfl) (by kernel_rfl) (by kernel_rfl) (by kernel_rfl) hs.size ?_ ?_ ?_
      · intro i v wa wb hb hr
        rcases i with _ | _ | _ | _ | _ | _ | _ | _ | _ | i
        · exact hr
        · exact hr
        · exact hr
        · exact hr
        · exact hr
        · exact hr
        · exact hr
        · exact hr
        · exact hr
        · trivial
      · refine d_step rfl rfl ?_ (d_step rfl rfl ?_ (d_step rfl rfl ?_ (d_step rfl rfl ?_ (d_step rfl rfl ?_ (d_step rfl rfl ?_ (d_step rfl rfl ?_ (d_step rfl rfl ?_ (d_step rfl rfl ?_ (d_nil)))))))))
        · intro xv_ wx ρ hρ hwx hd K hK
          have e1 : ρ (.tmp 1) = .pointer (some ⟨q2, 0, none⟩) := (hρ.inn 1 rfl).trans s1
          refine g_field (r := 4) rfl e1 Try.underlying32 rfl (fun w => Try.sizeOf26 w) rfl rfl ?_
          exact hK _ _ (Below.refl _ _) rfl
        · intro xv_ wx ρ hρ hwx hd K hK
          have e40 := (out2 hρ hs 0 40 rfl rfl rfl).trans (hd 0 rfl)
          have h_q2 := keep_below h_q2 hwx
          refine g_load rfl e40 Try.isAgg26 (box_cell h_q2 rfl) ?_
          exact hK _ _ (Below.refl _ _) rfl
        · intro xv_ wx ρ hρ hwx hd K hK
          have e5 : ρ (.tmp 5) = .int .i64 ((i : Nat) : Int) := (hρ.inn 5 rfl).trans s5
          refine g_move rfl e5 ?_
          exact hK _ _ (Below.refl _ _) rfl
        · intro xv_ wx ρ hρ hwx hd K hK
          have e41 := (out2 hρ hs 1 41 rfl rfl rfl).trans (hd 1 rfl)
          have e42 := (out2 hρ hs 2 42 rfl rfl rfl).trans (hd 2 rfl)
          refine g_index (r := o44 + i * 5) (k := i) rfl (e41.trans (slice_at hA45)) e42 Try.underlying26 (fun w => Try.sizeOf45 w) (by omega) rfl ?_
          exact hK _ _ (Below.refl _ _) rfl
        · intro xv_ wx ρ hρ hwx hd K hK
          have e43 := (out2 hρ hs 3 43 rfl rfl rfl).trans (hd 3 rfl)
          refine g_field (r := o44 + i * 5) rfl e43 Try.underlying45 rfl (fun w => Try.sizeOf3 w) rfl rfl ?_
          exact hK _ _ (Below.refl _ _) rfl
        · intro xv_ wx ρ hρ hwx hd K hK
          have e44 := (out2 hρ hs 4 44 rfl rfl rfl).trans (hd 4 rfl)
          have hc46 := elem_below hc46 hwx hl_hc46
          refine g_load rfl e44 Try.isAgg3 (by first | exact hc46 0 _ (by decide) rfl | (rw [Nat.add_assoc]; exact hc46 0 _ (by decide) rfl)) ?_
          exact hK _ _ (Below.refl _ _) rfl
        · intro xv_ wx ρ hρ hwx hd K hK
          have e4 : ρ (.tmp 4) = .pointer (some ⟨q22, 0, none⟩) := (hρ.inn 4 rfl).trans s4
          refine g_field (r := 0) rfl e4 Try.underlying45 rfl (fun w => Try.sizeOf3 w) rfl rfl ?_
          exact hK _ _ (Below.refl _ _) rfl
        · intro xv_ wx ρ hρ hwx hd K hK
          have e46 := (out2 hρ hs 6 46 rfl rfl rfl).trans (hd 6 rfl)
          have h_q22 := keep_below h_q22 hwx
          refine g_load rfl e46 Try.isAgg3 (box_cell h_q22 rfl) ?_
          exact hK _ _ (Below.refl _ _) rfl
        · intro xv_ wx ρ hρ hwx hd K hK
          have e45 := (out2 hρ hs 5 45 rfl rfl rfl).trans (hd 5 rfl)
          have e47 := (out2 hρ hs 7 47 rfl rfl rfl).trans (hd 7 rfl)
          refine g_eql rfl e45 e47 ?_
          exact hK _ _ (Below.refl _ _) rfl
      · intro x0_ w47 hb_w47 hr0
        replace h_q2 := keep_below h_q2 hb_w47
        replace h_q22 := keep_below h_q22 hb_w47
        replace hB := hB.trans (hb_w47.mono hB.size)
        clear hb_w47
        intro xv_ a38 hρ hsz hdf qx_ ql_ qk_ qlk_
        replace s1 : a38.eval (.tmp 1) = .pointer (some ⟨q2, 0, none⟩) := (hρ.inn 1 rfl).trans s1
        replace s2 : a38.eval (.tmp 2) = .bool false := (hρ.inn 2 rfl).trans s2
        replace s3 : a38.eval (.tmp 3) = .int .i64 ((k : Nat) : Int) := (hρ.inn 3 rfl).trans s3
        replace s4 : a38.eval (.tmp 4) = .pointer (some ⟨q22, 0, none⟩) := (hρ.inn 4 rfl).trans s4
        replace s5 : a38.eval (.tmp 5) = .int .i64 ((i : Nat) : Int) := (hρ.inn 5 rfl).trans s5
        replace s14 : a38.eval (.tmp 14) = .bool true := (hρ.inn 14 rfl).trans s14
        replace s34 : a38.eval (.tmp 34) = .bool false := (hρ.inn 34 rfl).trans s34
        replace s37 : a38.eval (.tmp 37) = .bool true := (hρ.inn 37 rfl).trans s37
        have s48 : a38.eval (.tmp 48) = .bool (decide (b.os[i].f0 = b.os[k].f0)) := (hρ.out 8 48 rfl (by rw [hs.size]; decide)).trans ((qx_ 8 (by decide) rfl rfl).trans (hr0 8 (by decide) rfl rfl))
        replace hs : St 91 a38 := ⟨hsz.trans hs.size, hdf.trans hs.nodef⟩
        clear hρ hsz hdf qx_ ql_ qk_ qlk_
        refine hK42 _ _ ?_
        clear hK42
        by_cases he : b.os[i].f0 = b.os[k].f0
        · replace s48 : a38.eval (.tmp 48) = .bool true := (s48).trans (congrArg Value.bool (decide_eq_true he))
          refine c_true s48 ?_
          refine wp_seq_k fun K48 hK48 => ?_
          refine wp_region_lit ?_
          refine q_v hs rfl rfl rfl (g_assign rfl rfl ?_)
          intro a39 p39
          have s2 : a39.eval (.tmp 2) = .bool false := p39.v
          refine wpList_nil ?_
          replace s1 := p39.k s1 rfl
          replace s3 := p39.k s3 rfl
          replace s4 := p39.k s4 rfl
          replace s5 := p39.k s5 rfl
          replace s14 := p39.k s14 rfl
          replace s34 := p39.k s34 rfl
          replace s37 := p39.k s37 rfl
          replace s48 := p39.k s48 rfl
          refine hK48 _ _ ?_
          clear hK48
          refine wp_ret ?_
          try dsimp only [Exit.then, Exit.inBlock]
          refine ret1 p39.s Try.results60 (res_tmp s2) ?_
          have hfr : decide (idxO b.os b.os[k].f0 = (k : Int)) = false := decide_eq_false (fresh_no (by omega) hlt he)
          have hat : osAt b.taken b.os k = false := by unfold osAt freshO sortO; rw [wAt_eq hlt]; simp only [decide_eq_true hc15, hc29, hc31, decide_eq_true hc40, decide_eq_true he, hfr, Bool.and_true, Bool.true_and, Bool.and_false, Bool.false_and, Bool.or_true, Bool.true_or, Bool.or_false, Bool.false_or, Bool.not_true, Bool.not_false, Bool.and_self]
          exact ⟨by unfold osOk; rw [osTo_fail hlt hat, Bool.and_false], hB⟩
        replace s48 : a38.eval (.tmp 48) = .bool false := (s48).trans (congrArg Value.bool (decide_eq_false he))
        refine c_false s48 ?_
        refine wp_skip ?_
        refine hK41 _ _ ?_
        clear hK41
        refine wp_region_lit ?_
        refine q_v hs rfl rfl rfl (g_move rfl s5 ?_)
        intro a39 p39
        refine q_v p39.s rfl rfl rfl (g_add (r := ((i + 1 : Nat) : Int)) rfl p39.v rfl (by omega) (by omega) ?_)
        intro a40 p40
        refine q_v p40.s rfl rfl rfl (g_assign rfl p40.v ?_)
        intro a41 p41
        refine wpList_nil ?_
        have kc38 := (((Kps.nil a38).u p39).u p40).u p41
        replace s1 := kc38.k s1 rfl
        replace s2 := kc38.k s2 rfl
        replace s3 := kc38.k s3 rfl
        replace s4 := kc38.k s4 rfl
        replace s5 := p41.v
        replace s14 := kc38.k s14 rfl
        replace s34 := kc38.k s34 rfl
        replace s37 := kc38.k s37 rfl
        replace s48 := kc38.k s48 rfl
        clear kc38
        refine show _ ∧ _ from ⟨⟨i + 1, p41.s, s1, s2, s3, s4, s5, s14, s34, hB, h_q2, h_q22, (by omega), (fun j hj h8 => (Nat.lt_succ_iff_lt_or_eq.1 hj).elim (fun h9 => hno j h9 h8) (fun h9 => by subst h9; exact he))⟩, ?_⟩
        show k - (intOf (a41.eval (.tmp 5))).toNat < k - (intOf (a34.eval (.tmp 5))).toNat
        rw [s5, mu37]
        simp only [intOf]
        omega
    replace s37 : a37.eval (.tmp 37) = .bool false := (s37).trans (congrArg Value.bool (decide_eq_false hc40))
    refine c_false s37 ?_
    refine wp_exit ?_
    refine hK33 _ _ ?_
    clear hK33
    refine wp_seq_k fun K49 hK49 => ?_
    have hfr : decide (idxO b.os b.os[k].f0 = (k : Int)) = true := decide_eq_true (fresh_yes hlt (fun j hj h8 => hno j (by omega) h8))
    have hlt1 : k - 1 < b.os.length := by omega
    have hs := p37.s
    by_cases hk0 : 0 < ((k : Nat) : Int)
    · by_cases hc54 : b.os[k].f2 < b.os[k - 1].f2
      · obtain ⟨b55, o56, hA57, hl_hc58, hc58⟩ := Rd.get cWaiting_len (hr_o.below hB) rfl (i := k - 1) (by omega)
        refine wp_drawn (n := 91) [] [] [] (fun k_ v_ _wx => match k_ with | 0 => v_ = .int .i64 ((k : Nat) : Int) | 1 => v_ = .bool true | 2 => v_ = .bool true | 3 => v_ = .pointer (some ⟨q22, 1, none⟩) | 4 => v_ = .pointer (some ⟨q22, 2, none⟩) | 5 => v_ = .int .i64 (b.os[k].f2) | 6 => v_ = .pointer (some ⟨q2, 4, none⟩) | 7 => v_ = .slice oA b.os.length oc | 8 => v_ = .int .i64 ((k : Nat) : Int) | 9 => v_ = .int .i64 ((k - 1 : Nat) : Int) | 10 => v_ = .pointer (some ⟨b55, o56 + (k - 1) * 5, none⟩) | 11 => v_ = .pointer (some ⟨b55, o56 + (k - 1) * 5 + 1, none⟩) | 12 => v_ = .pointer (some ⟨b55, o56 + (k - 1) * 5 + 2, none⟩) | 13 => v_ = .int .i64 (b.os[k - 1].f2) | 14 => v_ = .bool true | 15 => v_ = .bool true | 28 => v_ = undef | 40 => v_ = .bool true | 41 => v_ = .bool true | _ => True) (by kernel_rfl) (by kernel_rfl) (by kernel_rfl) (by kernel_rfl) hs.size ?_ ?_ ?_
        · intro i v wa wb hb hr
          rcases i with _ | _ | _ | _ | _ | _ | _ | _ | _ | _ | _ | _ | _ | _ | _ | _ | _ | _ | _ | _ | _ | _ | _ | _ | _ | _ | _ | _ | _ | _ | _ | _ | _ | _ | _ | _ | _ | _ | _ | _ | _ | _ | i
          · exact hr
          · exact hr
          · exact hr
          · exact hr
          · exact hr
          · exact hr
          · exact hr
          · exact hr
          · exact hr
          · exact hr
          · exact hr
          · exact hr
          · exact hr
          · exact hr
          · exact hr
          · exact hr
          · trivial
          · trivial
          · trivial
          · trivial
          · trivial
          · trivial
          · trivial
          · trivial
          · trivial
          · trivial
          · trivial
          · trivial
          · exact hr
          · trivial
          · trivial
          · trivial
          · trivial
          · trivial
          · trivial
          · trivial
          · trivial
          · trivial
          · trivial
          · trivial
          · exact hr
          · exact hr
          · trivial
        · refine d_step rfl rfl ?_ (d_step rfl rfl ?_ (d_step rfl rfl ?_ (d_take rfl 2 true 51 rfl rfl rfl (fun v w h => h) ?_ (d_take rfl 2 true 51 rfl rfl rfl (fun v w h => h) ?_ (d_take rfl 2 true 51 rfl rfl rfl (fun v w h => h) ?_ (d_take rfl 2 true 51 rfl rfl rfl (fun v w h => h) ?_ (d_take rfl 2 true 51 rfl rfl rfl (fun v w h => h) ?_ (d_take rfl 2 true 51 rfl rfl rfl (fun v w h => h) ?_ (d_take rfl 2 true 51 rfl rfl rfl (fun v w h => h) ?_ (d_take rfl 2 true 51 rfl rfl rfl (fun v w h => h) ?_ (d_take rfl 2 true 51 rfl rfl rfl (fun v w h => h) ?_ (d_take rfl 2 true 51 rfl rfl rfl (fun v w h => h) ?_ (d_take rfl 2 true 51 rfl rfl rfl (fun v w h => h) ?_ (d_take rfl 2 true 51 rfl rfl rfl (fun v w h => h) ?_ (d_take rfl 2 true 51 rfl rfl rfl (fun v w h => h) ?_ (d_skip 15 false 64 rfl rfl rfl (fun v w h => Or.inl h) (fun w => trivial) (d_skip 15 false 64 rfl rfl rfl (fun v w h => Or.inl h) (fun w => trivial) (d_skip 15 false 64 rfl rfl rfl (fun v w h => Or.inl h) (fun w => trivial) (d_skip 15 false 64 rfl rfl rfl (fun v w h => Or.inl h) (fun w => trivial) (d_skip 15 false 64 rfl rfl rfl (fun v w h => Or.inl h) (fun w => trivial) (d_skip 15 false 64 rfl rfl rfl (fun v w h => Or.inl h) (fun w => trivial) (d_skip 15 false 64 rfl rfl rfl (fun v w h => Or.inl h) (fun w => trivial) (d_skip 15 false 64 rfl rfl rfl (fun v w h => Or.inl h) (fun w => trivial) (d_skip 15 false 64 rfl rfl rfl (fun v w h => Or.inl h) (fun w => trivial) (d_skip 15 false 64 rfl rfl rfl (fun v w h => Or.inl h) (fun w => trivial) (d_skip 15 false 64 rfl rfl rfl (fun v w h => Or.inl h) (fun w => trivial) (d_skip 15 false 64 rfl rfl rfl (fun v w h => Or.inl h) (fun w => trivial) (d_skip 15 false 64 rfl rfl rfl (fun v w h => Or.inl h) (fun w => rfl) (d_skip 28 true 77 rfl rfl rfl (fun v w h => Or.inr h) (fun w => trivial) (d_skip 28 true 77 rfl rfl rfl (fun v w h => Or.inr h) (fun w => trivial) (d_skip 28 true 77 rfl rfl rfl (fun v w h => Or.inr h) (fun w => trivial) (d_skip 28 true 77 rfl rfl rfl (fun v w h => Or.inr h) (fun w => trivial) (d_skip 28 true 77 rfl rfl rfl (fun v w h => Or.inr h) (fun w => trivial) (d_skip 28 true 77 rfl rfl rfl (fun v w h => Or.inr h) (fun w => trivial) (d_skip 28 true 77 rfl rfl rfl (fun v w h => Or.inr h) (fun w => trivial) (d_skip 28 true 77 rfl rfl rfl (fun v w h => Or.inr h) (fun w => trivial) (d_skip 28 true 77 rfl rfl rfl (fun v w h => Or.inr h) (fun w => trivial) (d_skip 28 true 77 rfl rfl rfl (fun v w h => Or.inr h) (fun w => trivial) (d_skip 15 false 64 rfl rfl rfl (fun v w h => Or.inl h) (fun w => trivial) (d_take rfl 2 true 51 rfl rfl rfl (fun v w h => h) ?_ (d_step rfl rfl ?_ (d_nil))))))))))))))))))))))))))))))))))))))))))
          · intro xv_ wx ρ hρ hwx hd K hK
            have e3 : ρ (.tmp 3) = .int .i64 ((k : Nat) : Int) := (hρ.inn 3 rfl).trans s3
            refine g_move rfl e3 ?_
            exact hK _ _ (Below.refl _ _) rfl
          · intro xv_ wx ρ hρ hwx hd K hK
            have e49 := (out2 hρ hs 0 49 rfl rfl rfl).trans (hd 0 rfl)
            refine g_gtr rfl e49 ((hρ.cst _)) ?_
            exact hK _ _ (Below.refl _ _) (congrArg Value.bool (decide_eq_true hk0))
          · intro xv_ wx ρ hρ hwx hd K hK
            have e50 := (out2 hρ hs 1 50 rfl rfl rfl).trans (hd 1 rfl)
            refine g_move rfl e50 ?_
            exact hK _ _ (Below.refl _ _) rfl
          · intro xv_ wx ρ hρ hwx hd K hK
            have e4 : ρ (.tmp 4) = .pointer (some ⟨q22, 0, none⟩) := (hρ.inn 4 rfl).trans s4
            refine g_field (r := 1) rfl e4 Try.underlying45 rfl (fun w => Try.sizeOf40 w) rfl rfl ?_
            exact hK _ _ (Below.refl _ _) rfl
          · intro xv_ wx ρ hρ hwx hd K hK
            have e52 := (out2 hρ hs 3 52 rfl rfl rfl).trans (hd 3 rfl)
            refine g_field (r := 2) rfl e52 Try.underlying40 rfl (fun w => Try.sizeOf3 w) rfl rfl ?_
            exact hK _ _ (Below.refl _ _) rfl
          · intro xv_ wx ρ hρ hwx hd K hK
            have e53 := (out2 hρ hs 4 53 rfl rfl rfl).trans (hd 4 rfl)
            have h_q22 := keep_below h_q22 hwx
            refine g_load rfl e53 Try.isAgg3 (box_cell h_q22 rfl) ?_
            exact hK _ _ (Below.refl _ _) rfl
          · intro xv_ wx ρ hρ hwx hd K hK
            have e1 : ρ (.tmp 1) = .pointer (some ⟨q2, 0, none⟩) := (hρ.inn 1 rfl).trans s1
            refine g_field (r := 4) rfl e1 Try.underlying32 rfl (fun w => Try.sizeOf26 w) rfl rfl ?_
            exact hK _ _ (Below.refl _ _) rfl
          · intro xv_ wx ρ hρ hwx hd K hK
            have e55 := (out2 hρ hs 6 55 rfl rfl rfl).trans (hd 6 rfl)
            have h_q2 := keep_below h_q2 hwx
            refine g_load rfl e55 Try.isAgg26 (box_cell h_q2 rfl) ?_
            exact hK _ _ (Below.refl _ _) rfl
          · intro xv_ wx ρ hρ hwx hd K hK
            have e3 : ρ (.tmp 3) = .int .i64 ((k : Nat) : Int) := (hρ.inn 3 rfl).trans s3
            refine g_move rfl e3 ?_
            exact hK _ _ (Below.refl _ _) rfl
          · intro xv_ wx ρ hρ hwx hd K hK
            have e57 := (out2 hρ hs 8 57 rfl rfl rfl).trans (hd 8 rfl)
            refine g_sub (r := ((k - 1 : Nat) : Int)) rfl e57 ((hρ.cst _)) (by omega) (by omega) ?_
            exact hK _ _ (Below.refl _ _) rfl
          · intro xv_ wx ρ hρ hwx hd K hK
            have e56 := (out2 hρ hs 7 56 rfl rfl rfl).trans (hd 7 rfl)
            have e58 := (out2 hρ hs 9 58 rfl rfl rfl).trans (hd 9 rfl)
            refine g_index (r := o56 + (k - 1) * 5) (k := k - 1) rfl (e56.trans (slice_at hA57)) e58 Try.underlying26 (fun w => Try.sizeOf45 w) (by omega) rfl ?_
            exact hK _ _ (Below.refl _ _) rfl
          · intro xv_ wx ρ hρ hwx hd K hK
            have e59 := (out2 hρ hs 10 59 rfl rfl rfl).trans (hd 10 rfl)
            refine g_field (r := o56 + (k - 1) * 5 + 1) rfl e59 Try.underlying45 rfl (fun w => Try.sizeOf40 w) rfl rfl ?_
            exact hK _ _ (Below.refl _ _) rfl
          · intro xv_ wx ρ hρ hwx hd K hK
            have e60 := (out2 hρ hs 11 60 rfl rfl rfl).trans (hd 11 rfl)
            refine g_field (r := o56 + (k - 1) * 5 + 2) rfl e60 Try.underlying40 rfl (fun w => Try.sizeOf3 w) rfl rfl ?_
            exact hK _ _ (Below.refl _ _) rfl
          · intro xv_ wx ρ hρ hwx hd K hK
            have e61 := (out2 hρ hs 12 61 rfl rfl rfl).trans (hd 12 rfl)
            have hc58 := elem_below hc58 hwx hl_hc58
            refine g_load rfl e61 Try.isAgg3 (by first | exact hc58 2 _ (by decide) rfl | (rw [Nat.add_assoc]; exact hc58 2 _ (by decide) rfl)) ?_
            exact hK _ _ (Below.refl _ _) rfl
          · intro xv_ wx ρ hρ hwx hd K hK
            have e54 := (out2 hρ hs 5 54 rfl rfl rfl).trans (hd 5 rfl)
            have e62 := (out2 hρ hs 13 62 rfl rfl rfl).trans (hd 13 rfl)
            refine g_lss rfl e54 e62 ?_
            exact hK _ _ (Below.refl _ _) (congrArg Value.bool (decide_eq_true hc54))
          · intro xv_ wx ρ hρ hwx hd K hK
            have e63 := (out2 hρ hs 14 63 rfl rfl rfl).trans (hd 14 rfl)
            refine g_move rfl e63 ?_
            exact hK _ _ (Below.refl _ _) rfl
          · intro xv_ wx ρ hρ hwx hd K hK
            have e64 := (out2 hρ hs 15 64 rfl rfl rfl).trans (hd 15 rfl)
            refine g_pick_t rfl e64 ((hρ.cst _)) ?_
            exact hK _ _ (Below.refl _ _) rfl
          · intro xv_ wx ρ hρ hwx hd K hK
            have e51 := (out2 hρ hs 2 51 rfl rfl rfl).trans (hd 2 rfl)
            have e89 := (out2 hρ hs 40 89 rfl rfl rfl).trans (hd 40 rfl)
            refine g_pick_t rfl e51 e89 ?_
            exact hK _ _ (Below.refl _ _) rfl
        · intro x0_ w59 hb_w59 hr0
          replace h_q2 := keep_below h_q2 hb_w59
          replace h_q22 := keep_below h_q22 hb_w59
          replace hB := hB.trans (hb_w59.mono hB.size)
          clear hb_w59
          intro xv_ a38 hρ hsz hdf qx_ ql_ qk_ qlk_
          replace s1 : a38.eval (.tmp 1) = .pointer (some ⟨q2, 0, none⟩) := (hρ.inn 1 rfl).trans s1
          replace s2 : a38.eval (.tmp 2) = .bool false := (hρ.inn 2 rfl).trans s2
          replace s3 : a38.eval (.tmp 3) = .int .i64 ((k : Nat) : Int) := (hρ.inn 3 rfl).trans s3
          replace s4 : a38.eval (.tmp 4) = .pointer (some ⟨q22, 0, none⟩) := (hρ.inn 4 rfl).trans s4
          replace s5 : a38.eval (.tmp 5) = .int .i64 ((i : Nat) : Int) := (hρ.inn 5 rfl).trans s5
          replace s14 : a38.eval (.tmp 14) = .bool true := (hρ.inn 14 rfl).trans s14
          replace s34 : a38.eval (.tmp 34) = .bool false := (hρ.inn 34 rfl).trans s34
          replace s37 : a38.eval (.tmp 37) = .bool false := (hρ.inn 37 rfl).trans s37
          have s90 : a38.eval (.tmp 90) = .bool true := (hρ.out 41 90 rfl (by rw [hs.size]; decide)).trans ((qx_ 41 (by decide) rfl rfl).trans (hr0 41 (by decide) rfl rfl))
          replace hs : St 91 a38 := ⟨hsz.trans hs.size, hdf.trans hs.nodef⟩
          clear hρ hsz hdf qx_ ql_ qk_ qlk_
          refine hK49 _ _ ?_
          clear hK49
          refine c_true s90 ?_
          refine wp_seq_k fun K60 hK60 => ?_
          refine wp_region_lit ?_
          refine q_v hs rfl rfl rfl (g_assign rfl rfl ?_)
          intro a39 p39
          have s2 : a39.eval (.tmp 2) = .bool false := p39.v
          refine wpList_nil ?_
          replace s1 := p39.k s1 rfl
          replace s3 := p39.k s3 rfl
          replace s4 := p39.k s4 rfl
          replace s5 := p39.k s5 rfl
          replace s14 := p39.k s14 rfl
          replace s34 := p39.k s34 rfl
          replace s37 := p39.k s37 rfl
          replace s90 := p39.k s90 rfl
          refine hK60 _ _ ?_
          clear hK60
          refine wp_ret ?_
          try dsimp only [Exit.then, Exit.inBlock]
          refine ret1 p39.s Try.results60 (res_tmp s2) ?_
          have hd0 : decide (k = 0) = false := decide_eq_false (by omega)
          have hat : osAt b.taken b.os k = false := by unfold osAt freshO sortO; rw [wAt_eq hlt, wAt_eq hlt1]; simp only [decide_eq_true hc15, hc29, hc31, decide_eq_false hc40, hfr, decide_eq_true hk0, decide_eq_true hc54, hd0, Bool.and_true, Bool.true_and, Bool.and_false, Bool.false_and, Bool.or_true, Bool.true_or, Bool.or_false, Bool.false_or, Bool.not_true, Bool.not_false, Bool.and_self]
          exact ⟨by unfold osOk; rw [osTo_fail hlt hat, Bool.and_false], hB⟩
      by_cases hc69 : b.os[k].f2 = b.os[k - 1].f2
      · obtain ⟨b70, o71, hA72, hl_hc73, hc73⟩ := Rd.get cWaiting_len (hr_o.below hB) rfl (i := k - 1) (by omega)
        obtain ⟨b74, o75, hA76, hl_hc77, hc77⟩ := Rd.get cWaiting_len (hr_o.below hB) rfl (i := k - 1) (by omega)
        obtain ⟨b78, o79, hA80, hl_hc81, hc81⟩ := Rd.get cWaiting_len (hr_o.below hB) rfl (i := k - 1) (by omega)
        refine wp_drawn (n := 91) [] [] [] (fun k_ v_ _wx => match k_ with | 0 => v_ = .int .i64 ((k : Nat) : Int) | 1 => v_ = .bool true | 2 => v_ = .bool true | 3 => v_ = .pointer (some ⟨q22, 1, none⟩) | 4 => v_ = .pointer (some ⟨q22, 2, none⟩) | 5 => v_ = .int .i64 (b.os[k].f2) | 6 => v_ = .pointer (some ⟨q2, 4, none⟩) | 7 => v_ = .slice oA b.os.length oc | 8 => v_ = .int .i64 ((k : Nat) : Int) | 9 => v_ = .int .i64 ((k - 1 : Nat) : Int) | 10 => v_ = .pointer (some ⟨b70, o71 + (k - 1) * 5, none⟩) | 11 => v_ = .pointer (some ⟨b70, o71 + (k - 1) * 5 + 1, none⟩) | 12 => v_ = .pointer (some ⟨b70, o71 + (k - 1) * 5 + 2, none⟩) | 13 => v_ = .int .i64 (b.os[k - 1].f2) | 14 => v_ = .bool false | 15 => v_ = .bool false | 16 => v_ = .pointer (some ⟨q22, 1, none⟩) | 17 => v_ = .pointer (some ⟨q22, 2, none⟩) | 18 => v_ = .int .i64 (b.os[k].f2) | 19 => v_ = .pointer (some ⟨q2, 4, none⟩) | 20 => v_ = .slice oA b.os.length oc | 21 => v_ = .int .i64 ((k : Nat) : Int) | 22 => v_ = .int .i64 ((k - 1 : Nat) : Int) | 23 => v_ = .pointer (some ⟨b74, o75 + (k - 1) * 5, none⟩) | 24 => v_ = .pointer (some ⟨b74, o75 + (k - 1) * 5 + 1, none⟩) | 25 => v_ = .pointer (some ⟨b74, o75 + (k - 1) * 5 + 2, none⟩) | 26 => v_ = .int .i64 (b.os[k - 1].f2) | 27 => v_ = .bool true | 28 => v_ = .bool true | 29 => v_ = .pointer (some ⟨q22, 0, none⟩) | 30 => v_ = .int .i64 (b.os[k].f0) | 31 => v_ = .pointer (some ⟨q2, 4, none⟩) | 32 => v_ = .slice oA b.os.length oc | 33 => v_ = .int .i64 ((k : Nat) : Int) | 34 => v_ = .int .i64 ((k - 1 : Nat) : Int) | 35 => v_ = .pointer (some ⟨b78, o79 + (k - 1) * 5, none⟩) | 36 => v_ = .pointer (some ⟨b78, o79 + (k - 1) * 5, none⟩) | 37 => v_ = .int .i64 (b.os[k - 1].f0) | 38 => v_ = .bool (decide (b.os[k].f0 < b.os[k - 1].f0)) | 39 => v_ = .bool (decide (b.os[k].f0 < b.os[k - 1].f0)) | 40 => v_ = .bool (decide (b.os[k].f0 < b.os[k - 1].f0)) | 41 => v_ = .bool (decide (b.os[k].f0 < b.os[k - 1].f0)) | _ => True) (by kernel_rfl) (by kernel_rfl) (by kernel_rfl) (by kernel_rfl) hs.size ?_ ?_ ?_
        · intro i v wa wb hb hr
          rcases i with _ | _ | _ | _ | _ | _ | _ | _ | _ | _ | _ | _ | _ | _ | _ | _ | _ | _ | _ | _ | _ | _ | _ | _ | _ | _ | _ | _ | _ | _ | _ | _ | _ | _ | _ | _ | _ | _ | _ | _ | _ | _ | i
          · exact hr
          · exact hr
          · exact hr
          · exact hr
          · exact hr
          · exact hr
          · exact hr
          · exact hr
          · exact hr
          · exact hr
          · exact hr
          · exact hr
          · exact hr
          · exact hr
          · exact hr
          · exact hr
          · exact hr
          · exact hr
          · exact hr
          · exact hr
          · exact hr
          · exact hr
          · exact hr
          · exact hr
          · exact hr
          · exact hr
          · exact hr
          · exact hr
          · exact hr
          · exact hr
          · exact hr
          · exact hr
          · exact hr
          · exact hr
          · exact hr
          · exact hr
          · exact hr
          · exact hr
          · exact hr
          · exact hr
          · exact hr
          · exact hr
          · trivial
        · refine d_step rfl rfl ?_ (d_step rfl rfl ?_ (d_step rfl rfl ?_ (d_take rfl 2 true 51 rfl rfl rfl (fun v w h => h) ?_ (d_take rfl 2 true 51 rfl rfl rfl (fun v w h => h) ?_ (d_take rfl 2 true 51 rfl rfl rfl (fun v w h => h) ?_ (d_take rfl 2 true 51 rfl rfl rfl (fun v w h => h) ?_ (d_take rfl 2 true 51 rfl rfl rfl (fun v w h => h) ?_ (d_take rfl 2 true 51 rfl rfl rfl (fun v w h => h) ?_ (d_take rfl 2 true 51 rfl rfl rfl (fun v w h => h) ?_ (d_take rfl 2 true 51 rfl rfl rfl (fun v w h => h) ?_ (d_take rfl 2 true 51 rfl rfl rfl (fun v w h => h) ?_ (d_take rfl 2 true 51 rfl rfl rfl (fun v w h => h) ?_ (d_take rfl 2 true 51 rfl rfl rfl (fun v w h => h) ?_ (d_take rfl 2 true 51 rfl rfl rfl (fun v w h => h) ?_ (d_take rfl 2 true 51 rfl rfl rfl (fun v w h => h) ?_ (d_take rfl 15 false 64 rfl rfl rfl (fun v w h => h) ?_ (d_take rfl 15 false 64 rfl rfl rfl (fun v w h => h) ?_ (d_take rfl 15 false 64 rfl rfl rfl (fun v w h => h) ?_ (d_take rfl 15 false 64 rfl rfl rfl (fun v w h => h) ?_ (d_take rfl 15 false 64 rfl rfl rfl (fun v w h => h) ?_ (d_take rfl 15 false 64 rfl rfl rfl (fun v w h => h) ?_ (d_take rfl 15 false 64 rfl rfl rfl (fun v w h => h) ?_ (d_take rfl 15 false 64 rfl rfl rfl (fun v w h => h) ?_ (d_take rfl 15 false 64 rfl rfl rfl (fun v w h => h) ?_ (d_take rfl 15 false 64 rfl rfl rfl (fun v w h => h) ?_ (d_take rfl 15 false 64 rfl rfl rfl (fun v w h => h) ?_ (d_take rfl 15 false 64 rfl rfl rfl (fun v w h => h) ?_ (d_take rfl 15 false 64 rfl rfl rfl (fun v w h => h) ?_ (d_take rfl 28 true 77 rfl rfl rfl (fun v w h => h) ?_ (d_take rfl 28 true 77 rfl rfl rfl (fun v w h => h) ?_ (d_take rfl 28 true 77 rfl rfl rfl (fun v w h => h) ?_ (d_take rfl 28 true 77 rfl rfl rfl (fun v w h => h) ?_ (d_take rfl 28 true 77 rfl rfl rfl (fun v w h => h) ?_ (d_take rfl 28 true 77 rfl rfl rfl (fun v w h => h) ?_ (d_take rfl 28 true 77 rfl rfl rfl (fun v w h => h) ?_ (d_take rfl 28 true 77 rfl rfl rfl (fun v w h => h) ?_ (d_take rfl 28 true 77 rfl rfl rfl (fun v w h => h) ?_ (d_take rfl 28 true 77 rfl rfl rfl (fun v w h => h) ?_ (d_take rfl 15 false 64 rfl rfl rfl (fun v w h => h) ?_ (d_take rfl 2 true 51 rfl rfl rfl (fun v w h => h) ?_ (d_step rfl rfl ?_ (d_nil))))))))))))))))))))))))))))))))))))))))))
          · intro xv_ wx ρ hρ hwx hd K hK
            have e3 : ρ (.tmp 3) = .int .i64 ((k : Nat) : Int) := (hρ.inn 3 rfl).trans s3
            refine g_move rfl e3 ?_
            exact hK _ _ (Below.refl _ _) rfl
          · intro xv_ wx ρ hρ hwx hd K hK
            have e49 := (out2 hρ hs 0 49 rfl rfl rfl).trans (hd 0 rfl)
            refine g_gtr rfl e49 ((hρ.cst _)) ?_
            exact hK _ _ (Below.refl _ _) (congrArg Value.bool (decide_eq_true hk0))
          · intro xv_ wx ρ hρ hwx hd K hK
            have e50 := (out2 hρ hs 1 50 rfl rfl rfl).trans (hd 1 rfl)
            refine g_move rfl e50 ?_
            exact hK _ _ (Below.refl _ _) rfl
          · intro xv_ wx ρ hρ hwx hd K hK
            have e4 : ρ (.tmp 4) = .pointer (some ⟨q22, 0, none⟩) := (hρ.inn 4 rfl).trans s4
            refine g_field (r := 1) rfl e4 Try.underlying45 rfl (fun w => Try.sizeOf40 w) rfl rfl ?_
            exact hK _ _ (Below.refl _ _) rfl
          · intro xv_ wx ρ hρ hwx hd K hK
            have e52 := (out2 hρ hs 3 52 rfl rfl rfl).trans (hd 3 rfl)
            refine g_field (r := 2) rfl e52 Try.underlying40 rfl (fun w => Try.sizeOf3 w) rfl rfl ?_
            exact hK _ _ (Below.refl _ _) rfl
          · intro xv_ wx ρ hρ hwx hd K hK
            have e53 := (out2 hρ hs 4 53 rfl rfl rfl).trans (hd 4 rfl)
            have h_q22 := keep_below h_q22 hwx
            refine g_load rfl e53 Try.isAgg3 (box_cell h_q22 rfl) ?_
            exact hK _ _ (Below.refl _ _) rfl
          · intro xv_ wx ρ hρ hwx hd K hK
            have e1 : ρ (.tmp 1) = .pointer (some ⟨q2, 0, none⟩) := (hρ.inn 1 rfl).trans s1
            refine g_field (r := 4) rfl e1 Try.underlying32 rfl (fun w => Try.sizeOf26 w) rfl rfl ?_
            exact hK _ _ (Below.refl _ _) rfl
          · intro xv_ wx ρ hρ hwx hd K hK
            have e55 := (out2 hρ hs 6 55 rfl rfl rfl).trans (hd 6 rfl)
            have h_q2 := keep_below h_q2 hwx
            refine g_load rfl e55 Try.isAgg26 (box_cell h_q2 rfl) ?_
            exact hK _ _ (Below.refl _ _) rfl
          · intro xv_ wx ρ hρ hwx hd K hK
            have e3 : ρ (.tmp 3) = .int .i64 ((k : Nat) : Int) := (hρ.inn 3 rfl).trans s3
            refine g_move rfl e3 ?_
            exact hK _ _ (Below.refl _ _) rfl
          · intro xv_ wx ρ hρ hwx hd K hK
            have e57 := (out2 hρ hs 8 57 rfl rfl rfl).trans (hd 8 rfl)
            refine g_sub (r := ((k - 1 : Nat) : Int)) rfl e57 ((hρ.cst _)) (by omega) (by omega) ?_
            exact hK _ _ (Below.refl _ _) rfl
          · intro xv_ wx ρ hρ hwx hd K hK
            have e56 := (out2 hρ hs 7 56 rfl rfl rfl).trans (hd 7 rfl)
            have e58 := (out2 hρ hs 9 58 rfl rfl rfl).trans (hd 9 rfl)
            refine g_index (r := o71 + (k - 1) * 5) (k := k - 1) rfl (e56.trans (slice_at hA72)) e58 Try.underlying26 (fun w => Try.sizeOf45 w) (by omega) rfl ?_
            exact hK _ _ (Below.refl _ _) rfl
          · intro xv_ wx ρ hρ hwx hd K hK
            have e59 := (out2 hρ hs 10 59 rfl rfl rfl).trans (hd 10 rfl)
            refine g_field (r := o71 + (k - 1) * 5 + 1) rfl e59 Try.underlying45 rfl (fun w => Try.sizeOf40 w) rfl rfl ?_
            exact hK _ _ (Below.refl _ _) rfl
          · intro xv_ wx ρ hρ hwx hd K hK
            have e60 := (out2 hρ hs 11 60 rfl rfl rfl).trans (hd 11 rfl)
            refine g_field (r := o71 + (k - 1) * 5 + 2) rfl e60 Try.underlying40 rfl (fun w => Try.sizeOf3 w) rfl rfl ?_
            exact hK _ _ (Below.refl _ _) rfl
          · intro xv_ wx ρ hρ hwx hd K hK
            have e61 := (out2 hρ hs 12 61 rfl rfl rfl).trans (hd 12 rfl)
            have hc73 := elem_below hc73 hwx hl_hc73
            refine g_load rfl e61 Try.isAgg3 (by first | exact hc73 2 _ (by decide) rfl | (rw [Nat.add_assoc]; exact hc73 2 _ (by decide) rfl)) ?_
            exact hK _ _ (Below.refl _ _) rfl
          · intro xv_ wx ρ hρ hwx hd K hK
            have e54 := (out2 hρ hs 5 54 rfl rfl rfl).trans (hd 5 rfl)
            have e62 := (out2 hρ hs 13 62 rfl rfl rfl).trans (hd 13 rfl)
            refine g_lss rfl e54 e62 ?_
            exact hK _ _ (Below.refl _ _) (congrArg Value.bool (decide_eq_false hc54))
          · intro xv_ wx ρ hρ hwx hd K hK
            have e63 := (out2 hρ hs 14 63 rfl rfl rfl).trans (hd 14 rfl)
            refine g_move rfl e63 ?_
            exact hK _ _ (Below.refl _ _) rfl
          · intro xv_ wx ρ hρ hwx hd K hK
            have e4 : ρ (.tmp 4) = .pointer (some ⟨q22, 0, none⟩) := (hρ.inn 4 rfl).trans s4
            refine g_field (r := 1) rfl e4 Try.underlying45 rfl (fun w => Try.sizeOf40 w) rfl rfl ?_
            exact hK _ _ (Below.refl _ _) rfl
          · intro xv_ wx ρ hρ hwx hd K hK
            have e65 := (out2 hρ hs 16 65 rfl rfl rfl).trans (hd 16 rfl)
            refine g_field (r := 2) rfl e65 Try.underlying40 rfl (fun w => Try.sizeOf3 w) rfl rfl ?_
            exact hK _ _ (Below.refl _ _) rfl
          · intro xv_ wx ρ hρ hwx hd K hK
            have e66 := (out2 hρ hs 17 66 rfl rfl rfl).trans (hd 17 rfl)
            have h_q22 := keep_below h_q22 hwx
            refine g_load rfl e66 Try.isAgg3 (box_cell h_q22 rfl) ?_
            exact hK _ _ (Below.refl _ _) rfl
          · intro xv_ wx ρ hρ hwx hd K hK
            have e1 : ρ (.tmp 1) = .pointer (some ⟨q2, 0, none⟩) := (hρ.inn 1 rfl).trans s1
            refine g_field (r := 4) rfl e1 Try.underlying32 rfl (fun w => Try.sizeOf26 w) rfl rfl ?_
            exact hK _ _ (Below.refl _ _) rfl
          · intro xv_ wx ρ hρ hwx hd K hK
            have e68 := (out2 hρ hs 19 68 rfl rfl rfl).trans (hd 19 rfl)
            have h_q2 := keep_below h_q2 hwx
            refine g_load rfl e68 Try.isAgg26 (box_cell h_q2 rfl) ?_
            exact hK _ _ (Below.refl _ _) rfl
          · intro xv_ wx ρ hρ hwx hd K hK
            have e3 : ρ (.tmp 3) = .int .i64 ((k : Nat) : Int) := (hρ.inn 3 rfl).trans s3
            refine g_move rfl e3 ?_
            exact hK _ _ (Below.refl _ _) rfl
          · intro xv_ wx ρ hρ hwx hd K hK
            have e70 := (out2 hρ hs 21 70 rfl rfl rfl).trans (hd 21 rfl)
            refine g_sub (r := ((k - 1 : Nat) : Int)) rfl e70 ((hρ.cst _)) (by omega) (by omega) ?_
            exact hK _ _ (Below.refl _ _) rfl
          · intro xv_ wx ρ hρ hwx hd K hK
            have e69 := (out2 hρ hs 20 69 rfl rfl rfl).trans (hd 20 rfl)
            have e71 := (out2 hρ hs 22 71 rfl rfl rfl).trans (hd 22 rfl)
            refine g_index (r := o75 + (k - 1) * 5) (k := k - 1) rfl (e69.trans (slice_at hA76)) e71 Try.underlying26 (fun w => Try.sizeOf45 w) (by omega) rfl ?_
            exact hK _ _ (Below.refl _ _) rfl
          · intro xv_ wx ρ hρ hwx hd K hK
            have e72 := (out2 hρ hs 23 72 rfl rfl rfl).trans (hd 23 rfl)
            refine g_field (r := o75 + (k - 1) * 5 + 1) rfl e72 Try.underlying45 rfl (fun w => Try.sizeOf40 w) rfl rfl ?_
            exact hK _ _ (Below.refl _ _) rfl
          · intro xv_ wx ρ hρ hwx hd K hK
            have e73 := (out2 hρ hs 24 73 rfl rfl rfl).trans (hd 24 rfl)
            refine g_field (r := o75 + (k - 1) * 5 + 2) rfl e73 Try.underlying40 rfl (fun w => Try.sizeOf3 w) rfl rfl ?_
            exact hK _ _ (Below.refl _ _) rfl
          · intro xv_ wx ρ hρ hwx hd K hK
            have e74 := (out2 hρ hs 25 74 rfl rfl rfl).trans (hd 25 rfl)
            have hc77 := elem_below hc77 hwx hl_hc77
            refine g_load rfl e74 Try.isAgg3 (by first | exact hc77 2 _ (by decide) rfl | (rw [Nat.add_assoc]; exact hc77 2 _ (by decide) rfl)) ?_
            exact hK _ _ (Below.refl _ _) rfl
          · intro xv_ wx ρ hρ hwx hd K hK
            have e67 := (out2 hρ hs 18 67 rfl rfl rfl).trans (hd 18 rfl)
            have e75 := (out2 hρ hs 26 75 rfl rfl rfl).trans (hd 26 rfl)
            refine g_eql rfl e67 e75 ?_
            exact hK _ _ (Below.refl _ _) (congrArg Value.bool (decide_eq_true hc69))
          · intro xv_ wx ρ hρ hwx hd K hK
            have e76 := (out2 hρ hs 27 76 rfl rfl rfl).trans (hd 27 rfl)
            refine g_move rfl e76 ?_
            exact hK _ _ (Below.refl _ _) rfl
          · intro xv_ wx ρ hρ hwx hd K hK
            have e4 : ρ (.tmp 4) = .pointer (some ⟨q22, 0, none⟩) := (hρ.inn 4 rfl).trans s4
            refine g_field (r := 0) rfl e4 Try.underlying45 rfl (fun w => Try.sizeOf3 w) rfl rfl ?_
            exact hK _ _ (Below.refl _ _) rfl
          · intro xv_ wx ρ hρ hwx hd K hK
            have e78 := (out2 hρ hs 29 78 rfl rfl rfl).trans (hd 29 rfl)
            have h_q22 := keep_below h_q22 hwx
            refine g_load rfl e78 Try.isAgg3 (box_cell h_q22 rfl) ?_
            exact hK _ _ (Below.refl _ _) rfl
          · intro xv_ wx ρ hρ hwx hd K hK
            have e1 : ρ (.tmp 1) = .pointer (some ⟨q2, 0, none⟩) := (hρ.inn 1 rfl).trans s1
            refine g_field (r := 4) rfl e1 Try.underlying32 rfl (fun w => Try.sizeOf26 w) rfl rfl ?_
            exact hK _ _ (Below.refl _ _) rfl
          · intro xv_ wx ρ hρ hwx hd K hK
            have e80 := (out2 hρ hs 31 80 rfl rfl rfl).trans (hd 31 rfl)
            have h_q2 := keep_below h_q2 hwx
            refine g_load rfl e80 Try.isAgg26 (box_cell h_q2 rfl) ?_
            exact hK _ _ (Below.refl _ _) rfl
          · intro xv_ wx ρ hρ hwx hd K hK
            have e3 : ρ (.tmp 3) = .int .i64 ((k : Nat) : Int) := (hρ.inn 3 rfl).trans s3
            refine g_move rfl e3 ?_
            exact hK _ _ (Below.refl _ _) rfl
          · intro xv_ wx ρ hρ hwx hd K hK
            have e82 := (out2 hρ hs 33 82 rfl rfl rfl).trans (hd 33 rfl)
            refine g_sub (r := ((k - 1 : Nat) : Int)) rfl e82 ((hρ.cst _)) (by omega) (by omega) ?_
            exact hK _ _ (Below.refl _ _) rfl
          · intro xv_ wx ρ hρ hwx hd K hK
            have e81 := (out2 hρ hs 32 81 rfl rfl rfl).trans (hd 32 rfl)
            have e83 := (out2 hρ hs 34 83 rfl rfl rfl).trans (hd 34 rfl)
            refine g_index (r := o79 + (k - 1) * 5) (k := k - 1) rfl (e81.trans (slice_at hA80)) e83 Try.underlying26 (fun w => Try.sizeOf45 w) (by omega) rfl ?_
            exact hK _ _ (Below.refl _ _) rfl
          · intro xv_ wx ρ hρ hwx hd K hK
            have e84 := (out2 hρ hs 35 84 rfl rfl rfl).trans (hd 35 rfl)
            refine g_field (r := o79 + (k - 1) * 5) rfl e84 Try.underlying45 rfl (fun w => Try.sizeOf3 w) rfl rfl ?_
            exact hK _ _ (Below.refl _ _) rfl
          · intro xv_ wx ρ hρ hwx hd K hK
            have e85 := (out2 hρ hs 36 85 rfl rfl rfl).trans (hd 36 rfl)
            have hc81 := elem_below hc81 hwx hl_hc81
            refine g_load rfl e85 Try.isAgg3 (by first | exact hc81 0 _ (by decide) rfl | (rw [Nat.add_assoc]; exact hc81 0 _ (by decide) rfl)) ?_
            exact hK _ _ (Below.refl _ _) rfl
          · intro xv_ wx ρ hρ hwx hd K hK
            have e79 := (out2 hρ hs 30 79 rfl rfl rfl).trans (hd 30 rfl)
            have e86 := (out2 hρ hs 37 86 rfl rfl rfl).trans (hd 37 rfl)
            refine g_lss rfl e79 e86 ?_
            exact hK _ _ (Below.refl _ _) rfl
          · intro xv_ wx ρ hρ hwx hd K hK
            have e77 := (out2 hρ hs 28 77 rfl rfl rfl).trans (hd 28 rfl)
            have e87 := (out2 hρ hs 38 87 rfl rfl rfl).trans (hd 38 rfl)
            refine g_pick_t rfl e77 e87 ?_
            exact hK _ _ (Below.refl _ _) rfl
          · intro xv_ wx ρ hρ hwx hd K hK
            have e64 := (out2 hρ hs 15 64 rfl rfl rfl).trans (hd 15 rfl)
            have e88 := (out2 hρ hs 39 88 rfl rfl rfl).trans (hd 39 rfl)
            refine g_pick_f rfl e64 e88 ?_
            exact hK _ _ (Below.refl _ _) rfl
          · intro xv_ wx ρ hρ hwx hd K hK
            have e51 := (out2 hρ hs 2 51 rfl rfl rfl).trans (hd 2 rfl)
            have e89 := (out2 hρ hs 40 89 rfl rfl rfl).trans (hd 40 rfl)
            refine g_pick_t rfl e51 e89 ?_
            exact hK _ _ (Below.refl _ _) rfl
        · intro x0_ w82 hb_w82 hr0
          replace h_q2 := keep_below h_q2 hb_w82
          replace h_q22 := keep_below h_q22 hb_w82
          replace hB := hB.trans (hb_w82.mono hB.size)
          clear hb_w82
          intro xv_ a38 hρ hsz hdf qx_ ql_ qk_ qlk_
          replace s1 : a38.eval (.tmp 1) = .pointer (some ⟨q2, 0, none⟩) := (hρ.inn 1 rfl).trans s1
          replace s2 : a38.eval (.tmp 2) = .bool false := (hρ.inn 2 rfl).trans s2
          replace s3 : a38.eval (.tmp 3) = .int .i64 ((k : Nat) : Int) := (hρ.inn 3 rfl).trans s3
          replace s4 : a38.eval (.tmp 4) = .pointer (some ⟨q22, 0, none⟩) := (hρ.inn 4 rfl).trans s4
          replace s5 : a38.eval (.tmp 5) = .int .i64 ((i : Nat) : Int) := (hρ.inn 5 rfl).trans s5
          replace s14 : a38.eval (.tmp 14) = .bool true := (hρ.inn 14 rfl).trans s14
          replace s34 : a38.eval (.tmp 34) = .bool false := (hρ.inn 34 rfl).trans s34
          replace s37 : a38.eval (.tmp 37) = .bool false := (hρ.inn 37 rfl).trans s37
          have s90 : a38.eval (.tmp 90) = .bool (decide (b.os[k].f0 < b.os[k - 1].f0)) := (hρ.out 41 90 rfl (by rw [hs.size]; decide)).trans ((qx_ 41 (by decide) rfl rfl).trans (hr0 41 (by decide) rfl rfl))
          replace hs : St 91 a38 := ⟨hsz.trans hs.size, hdf.trans hs.nodef⟩
          clear hρ hsz hdf qx_ ql_ qk_ qlk_
          refine hK49 _ _ ?_
          clear hK49
          by_cases hc83 : b.os[k].f0 < b.os[k - 1].f0
          · replace s90 : a38.eval (.tmp 90) = .bool true := (s90).trans (congrArg Value.bool (decide_eq_true hc83))
            refine c_true s90 ?_
            refine wp_seq_k fun K84 hK84 => ?_
            refine wp_region_lit ?_
            refine q_v hs rfl rfl rfl (g_assign rfl rfl ?_)
            intro a39 p39
            have s2 : a39.eval (.tmp 2) = .bool false := p39.v
            refine wpList_nil ?_
            replace s1 := p39.k s1 rfl
            replace s3 := p39.k s3 rfl
            replace s4 := p39.k s4 rfl
            replace s5 := p39.k s5 rfl
            replace s14 := p39.k s14 rfl
            replace s34 := p39.k s34 rfl
            replace s37 := p39.k s37 rfl
            replace s90 := p39.k s90 rfl
            refine hK84 _ _ ?_
            clear hK84
            refine wp_ret ?_
            try dsimp only [Exit.then, Exit.inBlock]
            refine ret1 p39.s Try.results60 (res_tmp s2) ?_
            have hd0 : decide (k = 0) = false := decide_eq_false (by omega)
            have hat : osAt b.taken b.os k = false := by unfold osAt freshO sortO; rw [wAt_eq hlt, wAt_eq hlt1]; simp only [decide_eq_true hc15, hc29, hc31, decide_eq_false hc40, hfr, decide_eq_true hk0, decide_eq_false hc54, decide_eq_true hc69, decide_eq_true hc83, hd0, Bool.and_true, Bool.true_and, Bool.and_false, Bool.false_and, Bool.or_true, Bool.true_or, Bool.or_false, Bool.false_or, Bool.not_true, Bool.not_false, Bool.and_self]
            exact ⟨by unfold osOk; rw [osTo_fail hlt hat, Bool.and_false], hB⟩
          replace s90 : a38.eval (.tmp 90) = .bool false := (s90).trans (congrArg Value.bool (decide_eq_false hc83))
          refine c_false s90 ?_
          refine wp_skip ?_
          refine hK16 _ _ ?_
          clear hK16
          refine wp_region_lit ?_
          refine q_v hs rfl rfl rfl (g_move rfl s3 ?_)
          intro a39 p39
          refine q_v p39.s rfl rfl rfl (g_add (r := ((k + 1 : Nat) : Int)) rfl p39.v rfl (by omega) (by omega) ?_)
          intro a40 p40
          refine q_v p40.s rfl rfl rfl (g_assign rfl p40.v ?_)
          intro a41 p41
          refine wpList_nil ?_
          have kc38 := (((Kps.nil a38).u p39).u p40).u p41
          replace s1 := kc38.k s1 rfl
          replace s2 := kc38.k s2 rfl
          replace s3 := p41.v
          replace s4 := kc38.k s4 rfl
          replace s5 := kc38.k s5 rfl
          replace s14 := kc38.k s14 rfl
          replace s34 := kc38.k s34 rfl
          replace s37 := kc38.k s37 rfl
          replace s90 := kc38.k s90 rfl
          clear kc38
          have hd0 : decide (k = 0) = false := by exact decide_eq_false (by omega)
          have hat : osAt b.taken b.os k = true := by unfold osAt freshO sortO; rw [wAt_eq hlt, wAt_eq hlt1, hfr]; simp only [decide_eq_false hc6, decide_eq_true hc15, hc29, hc31, decide_eq_false hc40, hfr, decide_eq_true hk0, decide_eq_false hc54, decide_eq_true hc69, decide_eq_false hc83, hd0, Bool.and_true, Bool.true_and, Bool.and_false, Bool.false_and, Bool.or_true, Bool.true_or, Bool.or_false, Bool.false_or, Bool.not_true, Bool.not_false, Bool.and_self]
          refine show _ ∧ _ from ⟨⟨k + 1, p41.s, s1, s2, s3, hB, h_q2, (by omega), (osTo_step hst hat)⟩, ?_⟩
          show b.os.length - (intOf (a41.eval (.tmp 3))).toNat < b.os.length - (intOf (a8.eval (.tmp 3))).toNat
          rw [s3, mu12]
          simp only [intOf]
          omega
      obtain ⟨b85, o86, hA87, hl_hc88, hc88⟩ := Rd.get cWaiting_len (hr_o.below hB) rfl (i := k - 1) (by omega)
      obtain ⟨b89, o90, hA91, hl_hc92, hc92⟩ := Rd.get cWaiting_len (hr_o.below hB) rfl (i := k - 1) (by omega)
      refine wp_drawn (n := 91) [] [] [] (fun k_ v_ _wx => match k_ with | 0 => v_ = .int .i64 ((k : Nat) : Int) | 1 => v_ = .bool true | 2 => v_ = .bool true | 3 => v_ = .pointer (some ⟨q22, 1, none⟩) | 4 => v_ = .pointer (some ⟨q22, 2, none⟩) | 5 => v_ = .int .i64 (b.os[k].f2) | 6 => v_ = .pointer (some ⟨q2, 4, none⟩) | 7 => v_ = .slice oA b.os.length oc | 8 => v_ = .int .i64 ((k : Nat) : Int) | 9 => v_ = .int .i64 ((k - 1 : Nat) : Int) | 10 => v_ = .pointer (some ⟨b85, o86 + (k - 1) * 5, none⟩) | 11 => v_ = .pointer (some ⟨b85, o86 + (k - 1) * 5 + 1, none⟩) | 12 => v_ = .pointer (some ⟨b85, o86 + (k - 1) * 5 + 2, none⟩) | 13 => v_ = .int .i64 (b.os[k - 1].f2) | 14 => v_ = .bool false | 15 => v_ = .bool false | 16 => v_ = .pointer (some ⟨q22, 1, none⟩) | 17 => v_ = .pointer (some ⟨q22, 2, none⟩) | 18 => v_ = .int .i64 (b.os[k].f2) | 19 => v_ = .pointer (some ⟨q2, 4, none⟩) | 20 => v_ = .slice oA b.os.length oc | 21 => v_ = .int .i64 ((k : Nat) : Int) | 22 => v_ = .int .i64 ((k - 1 : Nat) : Int) | 23 => v_ = .pointer (some ⟨b89, o90 + (k - 1) * 5, none⟩) | 24 => v_ = .pointer (some ⟨b89, o90 + (k - 1) * 5 + 1, none⟩) | 25 => v_ = .pointer (some ⟨b89, o90 + (k - 1) * 5 + 2, none⟩) | 26 => v_ = .int .i64 (b.os[k - 1].f2) | 27 => v_ = .bool false | 28 => v_ = .bool false | 39 => v_ = .bool false | 40 => v_ = .bool false | 41 => v_ = .bool false | _ => True) (by kernel_rfl) (by kernel_rfl) (by kernel_rfl) (by kernel_rfl) hs.size ?_ ?_ ?_
      · intro i v wa wb hb hr
        rcases i with _ | _ | _ | _ | _ | _ | _ | _ | _ | _ | _ | _ | _ | _ | _ | _ | _ | _ | _ | _ | _ | _ | _ | _ | _ | _ | _ | _ | _ | _ | _ | _ | _ | _ | _ | _ | _ | _ | _ | _ | _ | _ | i
        · exact hr
        · exact hr
        · exact hr
        · exact hr
        · exact hr
        · exact hr
        · exact hr
        · exact hr
        · exact hr
        · exact hr
        · exact hr
        · exact hr
        · exact hr
        · exact hr
        · exact hr
        · exact hr
        · exact hr
        · exact hr
        · exact hr
        · exact hr
        · exact hr
        · exact hr
        · exact hr
        · exact hr
        · exact hr
        · exact hr
        · exact hr
        · exact hr
        · exact hr
        · trivial
        · trivial
        · trivial
        · trivial
        · trivial
        · trivial
        · trivial
        · trivial
        · trivial
        · trivial
        · exact hr
        · exact hr
        · exact hr
        · trivial
      · refine d_step rfl rfl ?_ (d_step rfl rfl ?_ (d_step rfl rfl ?_ (d_take rfl 2 true 51 rfl rfl rfl (fun v w h => h) ?_ (d_take rfl 2 true 51 rfl rfl rfl (fun v w h => h) ?_ (d_take rfl 2 true 51 rfl rfl rfl (fun v w h => h) ?_ (d_take rfl 2 true 51 rfl rfl rfl (fun v w h => h) ?_ (d_take rfl 2 true 51 rfl rfl rfl (fun v w h => h) ?_ (d_take rfl 2 true 51 rfl rfl rfl (fun v w h => h) ?_ (d_take rfl 2 true 51 rfl rfl rfl (fun v w h => h) ?_ (d_take rfl 2 true 51 rfl rfl rfl (fun v w h => h) ?_ (d_take rfl 2 true 51 rfl rfl rfl (fun v w h => h) ?_ (d_take rfl 2 true 51 rfl rfl rfl (fun v w h => h) ?_ (d_take rfl 2 true 51 rfl rfl rfl (fun v w h => h) ?_ (d_take rfl 2 true 51 rfl rfl rfl (fun v w h => h) ?_ (d_take rfl 2 true 51 rfl rfl rfl (fun v w h => h) ?_ (d_take rfl 15 false 64 rfl rfl rfl (fun v w h => h) ?_ (d_take rfl 15 false 64 rfl rfl rfl (fun v w h => h) ?_ (d_take rfl 15 false 64 rfl rfl rfl (fun v w h => h) ?_ (d_take rfl 15 false 64 rfl rfl rfl (fun v w h => h) ?_ (d_take rfl 15 false 64 rfl rfl rfl (fun v w h => h) ?_ (d_take rfl 15 false 64 rfl rfl rfl (fun v w h => h) ?_ (d_take rfl 15 false 64 rfl rfl rfl (fun v w h => h) ?_ (d_take rfl 15 false 64 rfl rfl rfl (fun v w h => h) ?_ (d_take rfl 15 false 64 rfl rfl rfl (fun v w h => h) ?_ (d_take rfl 15 false 64 rfl rfl rfl (fun v w h => h) ?_ (d_take rfl 15 false 64 rfl rfl rfl (fun v w h => h) ?_ (d_take rfl 15 false 64 rfl rfl rfl (fun v w h => h) ?_ (d_take rfl 15 false 64 rfl rfl rfl (fun v w h => h) ?_ (d_skip 28 true 77 rfl rfl rfl (fun v w h => Or.inl h) (fun w => trivial) (d_skip 28 true 77 rfl rfl rfl (fun v w h => Or.inl h) (fun w => trivial) (d_skip 28 true 77 rfl rfl rfl (fun v w h => Or.inl h) (fun w => trivial) (d_skip 28 true 77 rfl rfl rfl (fun v w h => Or.inl h) (fun w => trivial) (d_skip 28 true 77 rfl rfl rfl (fun v w h => Or.inl h) (fun w => trivial) (d_skip 28 true 77 rfl rfl rfl (fun v w h => Or.inl h) (fun w => trivial) (d_skip 28 true 77 rfl rfl rfl (fun v w h => Or.inl h) (fun w => trivial) (d_skip 28 true 77 rfl rfl rfl (fun v w h => Or.inl h) (fun w => trivial) (d_skip 28 true 77 rfl rfl rfl (fun v w h => Or.inl h) (fun w => trivial) (d_skip 28 true 77 rfl rfl rfl (fun v w h => Or.inl h) (fun w => trivial) (d_take rfl 15 false 64 rfl rfl rfl (fun v w h => h) ?_ (d_take rfl 2 true 51 rfl rfl rfl (fun v w h => h) ?_ (d_step rfl rfl ?_ (d_nil))))))))))))))))))))))))))))))))))))))))))
        · intro xv_ wx ρ hρ hwx hd K hK
          have e3 : ρ (.tmp 3) = .int .i64 ((k : Nat) : Int) := (hρ.inn 3 rfl).trans s3
          refine g_move rfl e3 ?_
          exact hK _ _ (Below.refl _ _) rfl
        · intro xv_ wx ρ hρ hwx hd K hK
          have e49 := (out2 hρ hs 0 49 rfl rfl rfl).trans (hd 0 rfl)
          refine g_gtr rfl e49 ((hρ.cst _)) ?_
          exact hK _ _ (Below.refl _ _) (congrArg Value.bool (decide_eq_true hk0))
        · intro xv_ wx ρ hρ hwx hd K hK
          have e50 := (out2 hρ hs 1 50 rfl rfl rfl).trans (hd 1 rfl)
          refine g_move rfl e50 ?_
          exact hK _ _ (Below.refl _ _) rfl
        · intro xv_ wx ρ hρ hwx hd K hK
          have e4 : ρ (.tmp 4) = .pointer (some ⟨q22, 0, none⟩) := (hρ.inn 4 rfl).trans s4
          refine g_field (r := 1) rfl e4 Try.underlying45 rfl (fun w => Try.sizeOf40 w) rfl rfl ?_
          exact hK _ _ (Below.refl _ _) rfl
        · intro xv_ wx ρ hρ hwx hd K hK
          have e52 := (out2 hρ hs 3 52 rfl rfl rfl).trans (hd 3 rfl)
          refine g_field (r := 2) rfl e52 Try.underlying40 rfl (fun w => Try.sizeOf3 w) rfl rfl ?_
          exact hK _ _ (Below.refl _ _) rfl
        · intro xv_ wx ρ hρ hwx hd K hK
          have e53 := (out2 hρ hs 4 53 rfl rfl rfl).trans (hd 4 rfl)
          have h_q22 := keep_below h_q22 hwx
          refine g_load rfl e53 Try.isAgg3 (box_cell h_q22 rfl) ?_
          exact hK _ _ (Below.refl _ _) rfl
        · intro xv_ wx ρ hρ hwx hd K hK
          have e1 : ρ (.tmp 1) = .pointer (some ⟨q2, 0, none⟩) := (hρ.inn 1 rfl).trans s1
          refine g_field (r := 4) rfl e1 Try.underlying32 rfl (fun w => Try.sizeOf26 w) rfl rfl ?_
          exact hK _ _ (Below.refl _ _) rfl
        · intro xv_ wx ρ hρ hwx hd K hK
          have e55 := (out2 hρ hs 6 55 rfl rfl rfl).trans (hd 6 rfl)
          have h_q2 := keep_below h_q2 hwx
          refine g_load rfl e55 Try.isAgg26 (box_cell h_q2 rfl) ?_
          exact hK _ _ (Below.refl _ _) rfl
        · intro xv_ wx ρ hρ hwx hd K hK
          have e3 : ρ (.tmp 3) = .int .i64 ((k : Nat) : Int) := (hρ.inn 3 rfl).trans s3
          refine g_move rfl e3 ?_
          exact hK _ _ (Below.refl _ _) rfl
        · intro xv_ wx ρ hρ hwx hd K hK
          have e57 := (out2 hρ hs 8 57 rfl rfl rfl).trans (hd 8 rfl)
          refine g_sub (r := ((k - 1 : Nat) : Int)) rfl e57 ((hρ.cst _)) (by omega) (by omega) ?_
          exact hK _ _ (Below.refl _ _) rfl
        · intro xv_ wx ρ hρ hwx hd K hK
          have e56 := (out2 hρ hs 7 56 rfl rfl rfl).trans (hd 7 rfl)
          have e58 := (out2 hρ hs 9 58 rfl rfl rfl).trans (hd 9 rfl)
          refine g_index (r := o86 + (k - 1) * 5) (k := k - 1) rfl (e56.trans (slice_at hA87)) e58 Try.underlying26 (fun w => Try.sizeOf45 w) (by omega) rfl ?_
          exact hK _ _ (Below.refl _ _) rfl
        · intro xv_ wx ρ hρ hwx hd K hK
          have e59 := (out2 hρ hs 10 59 rfl rfl rfl).trans (hd 10 rfl)
          refine g_field (r := o86 + (k - 1) * 5 + 1) rfl e59 Try.underlying45 rfl (fun w => Try.sizeOf40 w) rfl rfl ?_
          exact hK _ _ (Below.refl _ _) rfl
        · intro xv_ wx ρ hρ hwx hd K hK
          have e60 := (out2 hρ hs 11 60 rfl rfl rfl).trans (hd 11 rfl)
          refine g_field (r := o86 + (k - 1) * 5 + 2) rfl e60 Try.underlying40 rfl (fun w => Try.sizeOf3 w) rfl rfl ?_
          exact hK _ _ (Below.refl _ _) rfl
        · intro xv_ wx ρ hρ hwx hd K hK
          have e61 := (out2 hρ hs 12 61 rfl rfl rfl).trans (hd 12 rfl)
          have hc88 := elem_below hc88 hwx hl_hc88
          refine g_load rfl e61 Try.isAgg3 (by first | exact hc88 2 _ (by decide) rfl | (rw [Nat.add_assoc]; exact hc88 2 _ (by decide) rfl)) ?_
          exact hK _ _ (Below.refl _ _) rfl
        · intro xv_ wx ρ hρ hwx hd K hK
          have e54 := (out2 hρ hs 5 54 rfl rfl rfl).trans (hd 5 rfl)
          have e62 := (out2 hρ hs 13 62 rfl rfl rfl).trans (hd 13 rfl)
          refine g_lss rfl e54 e62 ?_
          exact hK _ _ (Below.refl _ _) (congrArg Value.bool (decide_eq_false hc54))
        · intro xv_ wx ρ hρ hwx hd K hK
          have e63 := (out2 hρ hs 14 63 rfl rfl rfl).trans (hd 14 rfl)
          refine g_move rfl e63 ?_
          exact hK _ _ (Below.refl _ _) rfl
        · intro xv_ wx ρ hρ hwx hd K hK
          have e4 : ρ (.tmp 4) = .pointer (some ⟨q22, 0, none⟩) := (hρ.inn 4 rfl).trans s4
          refine g_field (r := 1) rfl e4 Try.underlying45 rfl (fun w => Try.sizeOf40 w) rfl rfl ?_
          exact hK _ _ (Below.refl _ _) rfl
        · intro xv_ wx ρ hρ hwx hd K hK
          have e65 := (out2 hρ hs 16 65 rfl rfl rfl).trans (hd 16 rfl)
          refine g_field (r := 2) rfl e65 Try.underlying40 rfl (fun w => Try.sizeOf3 w) rfl rfl ?_
          exact hK _ _ (Below.refl _ _) rfl
        · intro xv_ wx ρ hρ hwx hd K hK
          have e66 := (out2 hρ hs 17 66 rfl rfl rfl).trans (hd 17 rfl)
          have h_q22 := keep_below h_q22 hwx
          refine g_load rfl e66 Try.isAgg3 (box_cell h_q22 rfl) ?_
          exact hK _ _ (Below.refl _ _) rfl
        · intro xv_ wx ρ hρ hwx hd K hK
          have e1 : ρ (.tmp 1) = .pointer (some ⟨q2, 0, none⟩) := (hρ.inn 1 rfl).trans s1
          refine g_field (r := 4) rfl e1 Try.underlying32 rfl (fun w => Try.sizeOf26 w) rfl rfl ?_
          exact hK _ _ (Below.refl _ _) rfl
        · intro xv_ wx ρ hρ hwx hd K hK
          have e68 := (out2 hρ hs 19 68 rfl rfl rfl).trans (hd 19 rfl)
          have h_q2 := keep_below h_q2 hwx
          refine g_load rfl e68 Try.isAgg26 (box_cell h_q2 rfl) ?_
          exact hK _ _ (Below.refl _ _) rfl
        · intro xv_ wx ρ hρ hwx hd K hK
          have e3 : ρ (.tmp 3) = .int .i64 ((k : Nat) : Int) := (hρ.inn 3 rfl).trans s3
          refine g_move rfl e3 ?_
          exact hK _ _ (Below.refl _ _) rfl
        · intro xv_ wx ρ hρ hwx hd K hK
          have e70 := (out2 hρ hs 21 70 rfl rfl rfl).trans (hd 21 rfl)
          refine g_sub (r := ((k - 1 : Nat) : Int)) rfl e70 ((hρ.cst _)) (by omega) (by omega) ?_
          exact hK _ _ (Below.refl _ _) rfl
        · intro xv_ wx ρ hρ hwx hd K hK
          have e69 := (out2 hρ hs 20 69 rfl rfl rfl).trans (hd 20 rfl)
          have e71 := (out2 hρ hs 22 71 rfl rfl rfl).trans (hd 22 rfl)
          refine g_index (r := o90 + (k - 1) * 5) (k := k - 1) rfl (e69.trans (slice_at hA91)) e71 Try.underlying26 (fun w => Try.sizeOf45 w) (by omega) rfl ?_
          exact hK _ _ (Below.refl _ _) rfl
        · intro xv_ wx ρ hρ hwx hd K hK
          have e72 := (out2 hρ hs 23 72 rfl rfl rfl).trans (hd 23 rfl)
          refine g_field (r := o90 + (k - 1) * 5 + 1) rfl e72 Try.underlying45 rfl (fun w => Try.sizeOf40 w) rfl rfl ?_
          exact hK _ _ (Below.refl _ _) rfl
        · intro xv_ wx ρ hρ hwx hd K hK
          have e73 := (out2 hρ hs 24 73 rfl rfl rfl).trans (hd 24 rfl)
          refine g_field (r := o90 + (k - 1) * 5 + 2) rfl e73 Try.underlying40 rfl (fun w => Try.sizeOf3 w) rfl rfl ?_
          exact hK _ _ (Below.refl _ _) rfl
        · intro xv_ wx ρ hρ hwx hd K hK
          have e74 := (out2 hρ hs 25 74 rfl rfl rfl).trans (hd 25 rfl)
          have hc92 := elem_below hc92 hwx hl_hc92
          refine g_load rfl e74 Try.isAgg3 (by first | exact hc92 2 _ (by decide) rfl | (rw [Nat.add_assoc]; exact hc92 2 _ (by decide) rfl)) ?_
          exact hK _ _ (Below.refl _ _) rfl
        · intro xv_ wx ρ hρ hwx hd K hK
          have e67 := (out2 hρ hs 18 67 rfl rfl rfl).trans (hd 18 rfl)
          have e75 := (out2 hρ hs 26 75 rfl rfl rfl).trans (hd 26 rfl)
          refine g_eql rfl e67 e75 ?_
          exact hK _ _ (Below.refl _ _) (congrArg Value.bool (decide_eq_false hc69))
        · intro xv_ wx ρ hρ hwx hd K hK
          have e76 := (out2 hρ hs 27 76 rfl rfl rfl).trans (hd 27 rfl)
          refine g_move rfl e76 ?_
          exact hK _ _ (Below.refl _ _) rfl
        · intro xv_ wx ρ hρ hwx hd K hK
          have e77 := (out2 hρ hs 28 77 rfl rfl rfl).trans (hd 28 rfl)
          refine g_pick_f rfl e77 ((hρ.cst _)) ?_
          exact hK _ _ (Below.refl _ _) rfl
        · intro xv_ wx ρ hρ hwx hd K hK
          have e64 := (out2 hρ hs 15 64 rfl rfl rfl).trans (hd 15 rfl)
          have e88 := (out2 hρ hs 39 88 rfl rfl rfl).trans (hd 39 rfl)
          refine g_pick_f rfl e64 e88 ?_
          exact hK _ _ (Below.refl _ _) rfl
        · intro xv_ wx ρ hρ hwx hd K hK
          have e51 := (out2 hρ hs 2 51 rfl rfl rfl).trans (hd 2 rfl)
          have e89 := (out2 hρ hs 40 89 rfl rfl rfl).trans (hd 40 rfl)
          refine g_pick_t rfl e51 e89 ?_
          exact hK _ _ (Below.refl _ _) rfl
      · intro x0_ w93 hb_w93 hr0
        replace h_q2 := keep_below h_q2 hb_w93
        replace hB := hB.trans (hb_w93.mono hB.size)
        clear hb_w93
        intro xv_ a38 hρ hsz hdf qx_ ql_ qk_ qlk_
        replace s1 : a38.eval (.tmp 1) = .pointer (some ⟨q2, 0, none⟩) := (hρ.inn 1 rfl).trans s1
        replace s2 : a38.eval (.tmp 2) = .bool false := (hρ.inn 2 rfl).trans s2
        replace s3 : a38.eval (.tmp 3) = .int .i64 ((k : Nat) : Int) := (hρ.inn 3 rfl).trans s3
        replace s4 : a38.eval (.tmp 4) = .pointer (some ⟨q22, 0, none⟩) := (hρ.inn 4 rfl).trans s4
        replace s5 : a38.eval (.tmp 5) = .int .i64 ((i : Nat) : Int) := (hρ.inn 5 rfl).trans s5
        replace s14 : a38.eval (.tmp 14) = .bool true := (hρ.inn 14 rfl).trans s14
        replace s34 : a38.eval (.tmp 34) = .bool false := (hρ.inn 34 rfl).trans s34
        replace s37 : a38.eval (.tmp 37) = .bool false := (hρ.inn 37 rfl).trans s37
        have s90 : a38.eval (.tmp 90) = .bool false := (hρ.out 41 90 rfl (by rw [hs.size]; decide)).trans ((qx_ 41 (by decide) rfl rfl).trans (hr0 41 (by decide) rfl rfl))
        replace hs : St 91 a38 := ⟨hsz.trans hs.size, hdf.trans hs.nodef⟩
        clear hρ hsz hdf qx_ ql_ qk_ qlk_
        refine hK49 _ _ ?_
        clear hK49
        refine c_false s90 ?_
        refine wp_skip ?_
        refine hK16 _ _ ?_
        clear hK16
        refine wp_region_lit ?_
        refine q_v hs rfl rfl rfl (g_move rfl s3 ?_)
        intro a39 p39
        refine q_v p39.s rfl rfl rfl (g_add (r := ((k + 1 : Nat) : Int)) rfl p39.v rfl (by omega) (by omega) ?_)
        intro a40 p40
        refine q_v p40.s rfl rfl rfl (g_assign rfl p40.v ?_)
        intro a41 p41
        refine wpList_nil ?_
        have kc38 := (((Kps.nil a38).u p39).u p40).u p41
        replace s1 := kc38.k s1 rfl
        replace s2 := kc38.k s2 rfl
        replace s3 := p41.v
        replace s4 := kc38.k s4 rfl
        replace s5 := kc38.k s5 rfl
        replace s14 := kc38.k s14 rfl
        replace s34 := kc38.k s34 rfl
        replace s37 := kc38.k s37 rfl
        replace s90 := kc38.k s90 rfl
        clear kc38
        have hd0 : decide (k = 0) = false := by exact decide_eq_false (by omega)
        have hat : osAt b.taken b.os k = true := by unfold osAt freshO sortO; rw [wAt_eq hlt, wAt_eq hlt1, hfr]; simp only [decide_eq_false hc6, decide_eq_true hc15, hc29, hc31, decide_eq_false hc40, hfr, decide_eq_true hk0, decide_eq_false hc54, decide_eq_false hc69, hd0, Bool.and_true, Bool.true_and, Bool.and_false, Bool.false_and, Bool.or_true, Bool.true_or, Bool.or_false, Bool.false_or, Bool.not_true, Bool.not_false, Bool.and_self]
        refine show _ ∧ _ from ⟨⟨k + 1, p41.s, s1, s2, s3, hB, h_q2, (by omega), (osTo_step hst hat)⟩, ?_⟩
        show b.os.length - (intOf (a41.eval (.tmp 3))).toNat < b.os.length - (intOf (a8.eval (.tmp 3))).toNat
        rw [s3, mu12]
        simp only [intOf]
        omega
    refine wp_drawn (n := 91) [] [] [] (fun k_ v_ _wx => match k_ with | 0 => v_ = .int .i64 ((k : Nat) : Int) | 1 => v_ = .bool false | 2 => v_ = .bool false | 15 => v_ = undef | 28 => v_ = undef | 41 => v_ = .bool false | _ => True) (by kernel_rfl) (by kernel_rfl) (by kernel_rfl) (by kernel_rfl) hs.size ?_ ?_ ?_
    · intro i v wa wb hb hr
      rcases i with _ | _ | _ | _ | _ | _ | _ | _ | _ | _ | _ | _ | _ | _ | _ | _ | _ | _ | _ | _ | _ | _ | _ | _ | _ | _ | _ | _ | _ | _ | _ | _ | _ | _ | _ | _ | _ | _ | _ | _ | _ | _ | i
      · exact hr
      · exact hr
      · exact hr
      · trivial
      · trivial
      · trivial
      · trivial
      · trivial
      · trivial
      · trivial
      · trivial
      · trivial
      · trivial
      · trivial
      · trivial
      · exact hr
      · trivial
      · trivial
      · trivial
      · trivial
      · trivial
      · trivial
      · trivial
      · trivial
      · trivial
      · trivial
      · trivial
      · trivial
      · exact hr
      · trivial
      · trivial
      · trivial
      · trivial
      · trivial
      · trivial
      · trivial
      · trivial
      · trivial
      · trivial
      · trivial
      · trivial
      · exact hr
      · trivial
    · refine d_step rfl rfl ?_ (d_step rfl rfl ?_ (d_step rfl rfl ?_ (d_skip 2 true 51 rfl rfl rfl (fun v w h => Or.inl h) (fun w => trivial) (d_skip 2 true 51 rfl rfl rfl (fun v w h => Or.inl h) (fun w => trivial) (d_skip 2 true 51 rfl rfl rfl (fun v w h => Or.inl h) (fun w => trivial) (d_skip 2 true 51 rfl rfl rfl (fun v w h => Or.inl h) (fun w => trivial) (d_skip 2 true 51 rfl rfl rfl (fun v w h => Or.inl h) (fun w => trivial) (d_skip 2 true 51 rfl rfl rfl (fun v w h => Or.inl h) (fun w => trivial) (d_skip 2 true 51 rfl rfl rfl (fun v w h => Or.inl h) (fun w => trivial) (d_skip 2 true 51 rfl rfl rfl (fun v w h => Or.inl h) (fun w => trivial) (d_skip 2 true 51 rfl rfl rfl (fun v w h => Or.inl h) (fun w => trivial) (d_skip 2 true 51 rfl rfl rfl (fun v w h => Or.inl h) (fun w => trivial) (d_skip 2 true 51 rfl rfl rfl (fun v w h => Or.inl h) (fun w => trivial) (d_skip 2 true 51 rfl rfl rfl (fun v w h => Or.inl h) (fun w => trivial) (d_skip 2 true 51 rfl rfl rfl (fun v w h => Or.inl h) (fun w => rfl) (d_skip 15 false 64 rfl rfl rfl (fun v w h => Or.inr h) (fun w => trivial) (d_skip 15 false 64 rfl rfl rfl (fun v w h => Or.inr h) (fun w => trivial) (d_skip 15 false 64 rfl rfl rfl (fun v w h => Or.inr h) (fun w => trivial) (d_skip 15 false 64 rfl rfl rfl (fun v w h => Or.inr h) (fun w => trivial) (d_skip 15 false 64 rfl rfl rfl (fun v w h => Or.inr h) (fun w => trivial) (d_skip 15 false 64 rfl rfl rfl (fun v w h => Or.inr h) (fun w => trivial) (d_skip 15 false 64 rfl rfl rfl (fun v w h => Or.inr h) (fun w => trivial) (d_skip 15 false 64 rfl rfl rfl (fun v w h => Or.inr h) (fun w => trivial) (d_skip 15 false 64 rfl rfl rfl (fun v w h => Or.inr h) (fun w => trivial) (d_skip 15 false 64 rfl rfl rfl (fun v w h => Or.inr h) (fun w => trivial) (d_skip 15 false 64 rfl rfl rfl (fun v w h => Or.inr h) (fun w => trivial) (d_skip 15 false 64 rfl rfl rfl (fun v w h => Or.inr h) (fun w => trivial) (d_skip 15 false 64 rfl rfl rfl (fun v w h => Or.inr h) (fun w => rfl) (d_skip 28 true 77 rfl rfl rfl (fun v w h => Or.inr h) (fun w => trivial) (d_skip 28 true 77 rfl rfl rfl (fun v w h => Or.inr h) (fun w => trivial) (d_skip 28 true 77 rfl rfl rfl (fun v w h => Or.inr h) (fun w => trivial) (d_skip 28 true 77 rfl rfl rfl (fun v w h => Or.inr h) (fun w => trivial) (d_skip 28 true 77 rfl rfl rfl (fun v w h => Or.inr h) (fun w => trivial) (d_skip 28 true 77 rfl rfl rfl (fun v w h => Or.inr h) (fun w => trivial) (d_skip 28 true 77 rfl rfl rfl (fun v w h => Or.inr h) (fun w => trivial) (d_skip 28 true 77 rfl rfl rfl (fun v w h => Or.inr h) (fun w => trivial) (d_skip 28 true 77 rfl rfl rfl (fun v w h => Or.inr h) (fun w => trivial) (d_skip 28 true 77 rfl rfl rfl (fun v w h => Or.inr h) (fun w => trivial) (d_skip 15 false 64 rfl rfl rfl (fun v w h => Or.inr h) (fun w => trivial) (d_skip 2 true 51 rfl rfl rfl (fun v w h => Or.inl h) (fun w => trivial) (d_step rfl rfl ?_ (d_nil))))))))))))))))))))))))))))))))))))))))))
      · intro xv_ wx ρ hρ hwx hd K hK
        have e3 : ρ (.tmp 3) = .int .i64 ((k : Nat) : Int) := (hρ.inn 3 rfl).trans s3
        refine g_move rfl e3 ?_
        exact hK _ _ (Below.refl _ _) rfl
      · intro xv_ wx ρ hρ hwx hd K hK
        have e49 := (out2 hρ hs 0 49 rfl rfl rfl).trans (hd 0 rfl)
        refine g_gtr rfl e49 ((hρ.cst _)) ?_
        exact hK _ _ (Below.refl _ _) (congrArg Value.bool (decide_eq_false hk0))
      · intro xv_ wx ρ hρ hwx hd K hK
        have e50 := (out2 hρ hs 1 50 rfl rfl rfl).trans (hd 1 rfl)
        refine g_move rfl e50 ?_
        exact hK _ _ (Below.refl _ _) rfl
      · intro xv_ wx ρ hρ hwx hd K hK
        have e51 := (out2 hρ hs 2 51 rfl rfl rfl).trans (hd 2 rfl)
        refine g_pick_f rfl e51 ((hρ.cst _)) ?_
        exact hK _ _ (Below.refl _ _) rfl
    · intro x0_ w94 hb_w94 hr0
      replace h_q2 := keep_below h_q2 hb_w94
      replace hB := hB.trans (hb_w94.mono hB.size)
      clear hb_w94
      intro xv_ a38 hρ hsz hdf qx_ ql_ qk_ qlk_
      replace s1 : a38.eval (.tmp 1) = .pointer (some ⟨q2, 0, none⟩) := (hρ.inn 1 rfl).trans s1
      replace s2 : a38.eval (.tmp 2) = .bool false := (hρ.inn 2 rfl).trans s2
      replace s3 : a38.eval (.tmp 3) = .int .i64 ((k : Nat) : Int) := (hρ.inn 3 rfl).trans s3
      replace s4 : a38.eval (.tmp 4) = .pointer (some ⟨q22, 0, none⟩) := (hρ.inn 4 rfl).trans s4
      replace s5 : a38.eval (.tmp 5) = .int .i64 ((i : Nat) : Int) := (hρ.inn 5 rfl).trans s5
      replace s14 : a38.eval (.tmp 14) = .bool true := (hρ.inn 14 rfl).trans s14
      replace s34 : a38.eval (.tmp 34) = .bool false := (hρ.inn 34 rfl).trans s34
      replace s37 : a38.eval (.tmp 37) = .bool false := (hρ.inn 37 rfl).trans s37
      have s90 : a38.eval (.tmp 90) = .bool false := (hρ.out 41 90 rfl (by rw [hs.size]; decide)).trans ((qx_ 41 (by decide) rfl rfl).trans (hr0 41 (by decide) rfl rfl))
      replace hs : St 91 a38 := ⟨hsz.trans hs.size, hdf.trans hs.nodef⟩
      clear hρ hsz hdf qx_ ql_ qk_ qlk_
      refine hK49 _ _ ?_
      clear hK49
      refine c_false s90 ?_
      refine wp_skip ?_
      refine hK16 _ _ ?_
      clear hK16
      refine wp_region_lit ?_
      refine q_v hs rfl rfl rfl (g_move rfl s3 ?_)
      intro a39 p39
      refine q_v p39.s rfl rfl rfl (g_add (r := ((k + 1 : Nat) : Int)) rfl p39.v rfl (by omega) (by omega) ?_)
      intro a40 p40
      refine q_v p40.s rfl rfl rfl (g_assign rfl p40.v ?_)
      intro a41 p41
      refine wpList_nil ?_
      have kc38 := (((Kps.nil a38).u p39).u p40).u p41
      replace s1 := kc38.k s1 rfl
      replace s2 := kc38.k s2 rfl
      replace s3 := p41.v
      replace s4 := kc38.k s4 rfl
      replace s5 := kc38.k s5 rfl
      replace s14 := kc38.k s14 rfl
      replace s34 := kc38.k s34 rfl
      replace s37 := kc38.k s37 rfl
      replace s90 := kc38.k s90 rfl
      clear kc38
      have hd0 : decide (k = 0) = true := by exact decide_eq_true (by omega)
      have hat : osAt b.taken b.os k = true := by unfold osAt freshO sortO; rw [wAt_eq hlt, hfr]; simp only [decide_eq_false hc6, decide_eq_true hc15, hc29, hc31, decide_eq_false hc40, hfr, decide_eq_false hk0, hd0, Bool.and_true, Bool.true_and, Bool.and_false, Bool.false_and, Bool.or_true, Bool.true_or, Bool.or_false, Bool.false_or, Bool.not_true, Bool.not_false, Bool.and_self]
      refine show _ ∧ _ from ⟨⟨k + 1, p41.s, s1, s2, s3, hB, h_q2, (by omega), (osTo_step hst hat)⟩, ?_⟩
      show b.os.length - (intOf (a41.eval (.tmp 3))).toNat < b.os.length - (intOf (a8.eval (.tmp 3))).toNat
      rw [s3, mu12]
      simp only [intOf]
      omega
  replace s14 : a13.eval (.tmp 14) = .bool false := (s14).trans (congrArg Value.bool (decide_eq_false hc15))
  refine c_false s14 ?_
  refine wp_exit ?_
  refine hK8 _ _ ?_
  clear hK8
  refine wp_seq_k fun K95 hK95 => ?_
  refine wp_region_lit ?_
  refine q_v p13.s rfl rfl rfl (g_assign rfl rfl ?_)
  intro a14 p14
  have s2 : a14.eval (.tmp 2) = .bool true := p14.v
  refine wpList_nil ?_
  refine hK95 _ _ ?_
  clear hK95
  refine wp_ret ?_
  try dsimp only [Exit.then, Exit.inBlock]
  refine ret1 p14.s Try.results60 (res_tmp s2) ?_
  have hkz : k = b.os.length := by omega
  subst hkz
  exact ⟨by unfold osOk; rw [decide_eq_true (by omega : b.os.length ≤ 40), hst]; rfl, hB⟩
set_option maxRecDepth 100000 in
set_option maxHeartbeats 4000000 in
theorem boardOk_any {S : BSl} {b : EBoard} (w : World) (hR : RdB w S b) (hW : BdW b) :
    Calls Try.prog 21 #[bdV S b] w fun e w' => e = .returned (.bool (boOk b)) ∧ Below w.heap.size w w' := by
  obtain ⟨⟨pA, pn, pc⟩, ⟨lA, ln, lc⟩, ⟨oA, on, oc⟩, ⟨dA, dn, dc⟩, ⟨rA, rn, rc⟩, ⟨xA, xn, xc⟩, ⟨qA, qn, qc⟩⟩ := S
  obtain ⟨⟨hr_p, hl_p, hnn_p, hnc_p⟩, ⟨hr_l, hl_l, hnn_l, hnc_l⟩, ⟨hr_o, hl_o, hnn_o, hnc_o⟩, ⟨hr_d, hl_d, hnn_d, hnc_d⟩, ⟨hr_r, hl_r, hnn_r, hnc_r⟩, ⟨hr_x, hl_x, hnn_x, hnc_x⟩, ⟨hr_q, hl_q, hnn_q, hnc_q⟩⟩ := hR
  change b.ps.length = pn at hl_p
  subst pn
  change Rd _ 1 pA b.ps.length (b.ps.flatMap cI) at hr_p
  change pA = none → b.ps.length = 0 ∧ pc = 0 at hnn_p
  change b.ps.length ≤ pc at hnc_p
  change b.ls.length = ln at hl_l
  subst ln
  change Rd _ 3 lA b.ls.length (b.ls.flatMap cLimit) at hr_l
  change lA = none → b.ls.length = 0 ∧ lc = 0 at hnn_l
  change b.ls.length ≤ lc at hnc_l
  change b.os.length = on at hl_o
  subst on
  change Rd _ 5 oA b.os.length (b.os.flatMap cWaiting) at hr_o
  change oA = none → b.os.length = 0 ∧ oc = 0 at hnn_o
  change b.os.length ≤ oc at hnc_o
  change b.ds.length = dn at hl_d
  subst dn
  change Rd _ 3 dA b.ds.length (b.ds.flatMap cDone) at hr_d
  change dA = none → b.ds.length = 0 ∧ dc = 0 at hnn_d
  change b.ds.length ≤ dc at hnc_d
  change b.rs.length = rn at hl_r
  subst rn
  change Rd _ 4 rA b.rs.length (b.rs.flatMap cRecord) at hr_r
  change rA = none → b.rs.length = 0 ∧ rc = 0 at hnn_r
  change b.rs.length ≤ rc at hnc_r
  change b.xs.length = xn at hl_x
  subst xn
  change Rd _ 1 xA b.xs.length (b.xs.flatMap cI) at hr_x
  change xA = none → b.xs.length = 0 ∧ xc = 0 at hnn_x
  change b.xs.length ≤ xc at hnc_x
  change b.qs.length = qn at hl_q
  subst qn
  change Rd _ 1 qA b.qs.length (b.qs.flatMap cI) at hr_q
  change qA = none → b.qs.length = 0 ∧ qc = 0 at hnn_q
  change b.qs.length ≤ qc at hnc_q
  have hW1 := hW.ps
  have hW2 := hW.ls
  have hW3 := hW.os
  have hW4 := hW.ds
  have hW5 := hW.rs
  have hW6 := hW.xs
  have hW7 := hW.qs
  refine enter 129 Try.func21 rfl rfl (Nat.le_of_ble_eq_true rfl) ?_
  intro a0 hs hargs
  have s0 : a0.eval (.tmp 0) = .agg #[.int .i64 b.clk, .slice pA b.ps.length pc, .bool b.safe, .slice lA b.ls.length lc, .slice oA b.os.length oc, .slice dA b.ds.length dc, .int .i64 b.room, .slice rA b.rs.length rc, .slice xA b.xs.length xc, .int .i64 b.made, .int .i64 b.taken, .slice qA b.qs.length qc] := hargs 0 _ rfl
  clear hargs
  have hB : Below w.heap.size w w := Below.refl _ _
  refine wp_seq_k fun K1 hK1 => ?_
  refine wp_region_lit ?_
  refine q_v hs rfl rfl rfl ?_
  refine g_box rfl s0 rfl ?_
  intro q2 w3 N_q2
  replace hB := below_new hB hB.size N_q2
  have h_q2 := N_q2.here
  clear N_q2
  intro a1 p1
  refine q_v p1.s rfl rfl rfl (g_assign rfl rfl ?_)
  intro a2 p2
  have s2 : a2.eval (.tmp 2) = .bool false := p2.v
  refine wpList_nil ?_
  replace s1 := p2.k p1.v rfl
  refine hK1 _ _ ?_
  clear hK1
  refine wp_seq_k fun K4 hK4 => ?_
  refine wp_seq_k fun K5 hK5 => ?_
  refine wp_region_lit ?_
  refine q_v p2.s rfl rfl rfl (g_field (r := 0) rfl s1 Try.underlying32 rfl (fun w => Try.sizeOf3 w) rfl rfl ?_)
  intro a3 p3
  refine q_v p3.s rfl rfl rfl (g_load rfl p3.v Try.isAgg3 (box_cell h_q2 rfl) ?_)
  intro a4 p4
  refine q_v p4.s rfl rfl rfl ?_
  refine g_call rfl rfl Try.call43 (arr3 p4.v rfl rfl) ?_
  refine (between_any _ _ _ _).mono ?_
  rintro e w' ⟨rfl, rfl⟩
  refine ⟨_, rfl, ?_⟩
  intro a5 p5
  refine q_v p5.s rfl rfl rfl (g_not rfl p5.v ?_)
  intro a6 p6
  refine q_v p6.s rfl rfl rfl (g_move rfl p6.v ?_)
  intro a7 p7
  cases hc6 : inB b.clk 0 1000000
  · have s11 : a5.eval (.tmp 11) = .bool false := (p5.v).trans (congrArg Value.bool hc6)
    have s12 : a6.eval (.tmp 12) = .bool true := (p6.v).trans (congrArg (fun b => Value.bool (!b)) hc6)
    have s13 : a7.eval (.tmp 13) = .bool true := (p7.v).trans (congrArg (fun b => Value.bool (!b)) hc6)
    refine q_s p7.s rfl rfl s13 rfl rfl ?_
    intro a8 p8
    refine q_s p8.s rfl rfl (p8.k s13 rfl) rfl rfl ?_
    intro a9 p9
    refine q_s p9.s rfl rfl (p9.k (p8.k s13 rfl) rfl) rfl rfl ?_
    intro a10 p10
    refine q_s p10.s rfl rfl (p10.k (p9.k (p8.k s13 rfl) rfl) rfl) rfl rfl ?_
    intro a11 p11
    refine q_v p11.s rfl rfl rfl (g_pick_t rfl (p11.k (p10.k (p9.k (p8.k s13 rfl) rfl) rfl) rfl) rfl ?_)
    intro a12 p12
    have s18 : a12.eval (.tmp 18) = .bool true := p12.v
    refine q_v p12.s rfl rfl rfl (g_move rfl s18 ?_)
    intro a13 p13
    refine q_s p13.s rfl rfl p13.v rfl rfl ?_
    intro a14 p14
    refine q_s p14.s rfl rfl (p14.k p13.v rfl) rfl rfl ?_
    intro a15 p15
    refine q_s p15.s rfl rfl (p15.k (p14.k p13.v rfl) rfl) rfl rfl ?_
    intro a16 p16
    refine q_s p16.s rfl rfl (p16.k (p15.k (p14.k p13.v rfl) rfl) rfl) rfl rfl ?_
    intro a17 p17
    refine q_v p17.s rfl rfl rfl (g_pick_t rfl (p17.k (p16.k (p15.k (p14.k p13.v rfl) rfl) rfl) rfl) rfl ?_)
    intro a18 p18
    have s24 : a18.eval (.tmp 24) = .bool true := p18.v
    refine wpList_nil ?_
    have kc2 := ((((((((((((((((Kps.nil a2).u p3).u p4).u p5).u p6).u p7).u p8).u p9).u p10).u p11).u p12).u p13).u p14).u p15).u p16).u p17).u p18
    replace s1 := kc2.k s1 rfl
    replace s2 := kc2.k s2 rfl
    clear kc2
    refine hK5 _ _ ?_
    clear hK5
    refine c_true s24 ?_
    refine wp_seq_k fun K7 hK7 => ?_
    refine wp_region_lit ?_
    refine q_v p18.s rfl rfl rfl (g_assign rfl rfl ?_)
    intro a19 p19
    have s2 : a19.eval (.tmp 2) = .bool false := p19.v
    refine wpList_nil ?_
    replace s1 := p19.k s1 rfl
    refine hK7 _ _ ?_
    clear hK7
    refine wp_ret ?_
    try dsimp only [Exit.then, Exit.inBlock]
    refine ret1 p19.s Try.results21 (res_tmp s2) ?_
    exact ⟨by unfold boOk; simp only [hc6, Bool.and_true, Bool.true_and, Bool.and_false, Bool.false_and, Bool.or_true, Bool.true_or, Bool.or_false, Bool.false_or, Bool.not_true, Bool.not_false, Bool.and_self], hB⟩
  have s11 : a5.eval (.tmp 11) = .bool true := (p5.v).trans (congrArg Value.bool hc6)
  have s12 : a6.eval (.tmp 12) = .bool false := (p6.v).trans (congrArg (fun b => Value.bool (!b)) hc6)
  have s13 : a7.eval (.tmp 13) = .bool false := (p7.v).trans (congrArg (fun b => Value.bool (!b)) hc6)
  refine q_t p7.s rfl rfl s13 rfl rfl (g_field (r := 1) rfl (p7.k (p6.k (p5.k (p4.k (p3.k s1 rfl) rfl) rfl) rfl) rfl) Try.underlying32 rfl (fun w => Try.sizeOf24 w) rfl rfl ?_)
  intro a8 p8
  refine q_t p8.s rfl rfl (p8.k s13 rfl) rfl rfl (g_load rfl p8.v Try.isAgg24 (box_cell h_q2 rfl) ?_)
  intro a9 p9
  refine q_t p9.s rfl rfl (p9.k (p8.k s13 rfl) rfl) rfl rfl (g_len (e := _) rfl Try.underlying24 p9.v ?_)
  intro a10 p10
  refine q_t p10.s rfl rfl (p10.k (p9.k (p8.k s13 rfl) rfl) rfl) rfl rfl (g_neq rfl p10.v rfl ?_)
  intro a11 p11
  refine q_v p11.s rfl rfl rfl (g_pick_f rfl (p11.k (p10.k (p9.k (p8.k s13 rfl) rfl) rfl) rfl) p11.v ?_)
  intro a12 p12
  have s18 : a12.eval (.tmp 18) = .bool (!decide (((b.ps.length : Nat) : Int) = 8)) := p12.v
  refine q_v p12.s rfl rfl rfl (g_move rfl s18 ?_)
  intro a13 p13
  by_cases hc8 : ((b.ps.length : Nat) : Int) = 8
  · have s17 : a11.eval (.tmp 17) = .bool false := (p11.v).trans (congrArg (fun b => Value.bool (!b)) (decide_eq_true hc8))
    replace s18 : a12.eval (.tmp 18) = .bool false := (s18).trans (congrArg (fun b => Value.bool (!b)) (decide_eq_true hc8))
    have s19 : a13.eval (.tmp 19) = .bool false := (p13.v).trans (congrArg (fun b => Value.bool (!b)) (decide_eq_true hc8))
    refine q_t p13.s rfl rfl s19 rfl rfl (g_field (r := 1) rfl (p13.k (p12.k (p11.k (p10.k (p9.k (p8.k (p7.k (p6.k (p5.k (p4.k (p3.k s1 rfl) rfl) rfl) rfl) rfl) rfl) rfl) rfl) rfl) rfl) rfl) Try.underlying32 rfl (fun w => Try.sizeOf24 w) rfl rfl ?_)
    intro a14 p14
    refine q_t p14.s rfl rfl (p14.k s19 rfl) rfl rfl (g_load rfl p14.v Try.isAgg24 (box_cell h_q2 rfl) ?_)
    intro a15 p15
    refine q_t p15.s rfl rfl (p15.k (p14.k s19 rfl) rfl) rfl rfl ?_
    refine g_call rfl rfl Try.call51 (arr3 p15.v rfl rfl) ?_
    refine (allBetween_any _ _ _ b.ps _ _ _ rfl (by omega) (hr_p.below hB)).mono ?_
    rintro e w' ⟨rfl, rfl⟩
    refine ⟨_, rfl, ?_⟩
    intro a16 p16
    refine q_t p16.s rfl rfl (p16.k (p15.k (p14.k s19 rfl) rfl) rfl) rfl rfl (g_not rfl p16.v ?_)
    intro a17 p17
    refine q_v p17.s rfl rfl rfl (g_pick_f rfl (p17.k (p16.k (p15.k (p14.k s19 rfl) rfl) rfl) rfl) p17.v ?_)
    intro a18 p18
    have s24 : a18.eval (.tmp 24) = .bool (!(allB b.ps 0 65535)) := p18.v
    refine wpList_nil ?_
    have kc2 := ((((((((((((((((Kps.nil a2).u p3).u p4).u p5).u p6).u p7).u p8).u p9).u p10).u p11).u p12).u p13).u p14).u p15).u p16).u p17).u p18
    replace s1 := kc2.k s1 rfl
    replace s2 := kc2.k s2 rfl
    clear kc2
    refine hK5 _ _ ?_
    clear hK5
    cases hc9 : allB b.ps 0 65535
    · replace s24 : a18.eval (.tmp 24) = .bool true := (s24).trans (congrArg (fun b => Value.bool (!b)) hc9)
      refine c_true s24 ?_
      refine wp_seq_k fun K10 hK10 => ?_
      refine wp_region_lit ?_
      refine q_v p18.s rfl rfl rfl (g_assign rfl rfl ?_)
      intro a19 p19
      have s2 : a19.eval (.tmp 2) = .bool false := p19.v
      refine wpList_nil ?_
      replace s1 := p19.k s1 rfl
      refine hK10 _ _ ?_
      clear hK10
      refine wp_ret ?_
      try dsimp only [Exit.then, Exit.inBlock]
      refine ret1 p19.s Try.results21 (res_tmp s2) ?_
      have hl11 : decide (b.ps.length = 8) = true := by exact decide_eq_true (by omega)
      exact ⟨by unfold boOk; simp only [hc6, hl11, hc9, Bool.and_true, Bool.true_and, Bool.and_false, Bool.false_and, Bool.or_true, Bool.true_or, Bool.or_false, Bool.false_or, Bool.not_true, Bool.not_false, Bool.and_self], hB⟩
    replace s24 : a18.eval (.tmp 24) = .bool false := (s24).trans (congrArg (fun b => Value.bool (!b)) hc9)
    refine c_false s24 ?_
    refine wp_skip ?_
    refine hK4 _ _ ?_
    clear hK4
    refine wp_seq_k fun K12 hK12 => ?_
    refine wp_seq_k fun K13 hK13 => ?_
    refine wp_region_lit ?_
    refine q_v p18.s rfl rfl rfl (g_field (r := 3) rfl s1 Try.underlying32 rfl (fun w => Try.sizeOf25 w) rfl rfl ?_)
    intro a19 p19
    refine q_v p19.s rfl rfl rfl (g_load rfl p19.v Try.isAgg25 (box_cell h_q2 rfl) ?_)
    intro a20 p20
    refine q_v p20.s rfl rfl rfl (g_len (e := _) rfl Try.underlying25 p20.v ?_)
    intro a21 p21
    refine q_v p21.s rfl rfl rfl (g_gtr rfl p21.v rfl ?_)
    intro a22 p22
    refine wpList_nil ?_
    have kc18 := ((((Kps.nil a18).u p19).u p20).u p21).u p22
    replace s1 := kc18.k s1 rfl
    replace s2 := kc18.k s2 rfl
    replace s28 := p22.v
    clear kc18
    refine hK13 _ _ ?_
    clear hK13
    by_cases hc14 : 8 < ((b.ls.length : Nat) : Int)
    · replace s28 : a22.eval (.tmp 28) = .bool true := (s28).trans (congrArg Value.bool (decide_eq_true hc14))
      refine c_true s28 ?_
      refine wp_seq_k fun K15 hK15 => ?_
      refine wp_region_lit ?_
      refine q_v p22.s rfl rfl rfl (g_assign rfl rfl ?_)
      intro a23 p23
      have s2 : a23.eval (.tmp 2) = .bool false := p23.v
      refine wpList_nil ?_
      replace s1 := p23.k s1 rfl
      refine hK15 _ _ ?_
      clear hK15
      refine wp_ret ?_
      try dsimp only [Exit.then, Exit.inBlock]
      refine ret1 p23.s Try.results21 (res_tmp s2) ?_
      have hl16 : decide (b.ps.length = 8) = true := by exact decide_eq_true (by omega)
      have hl17 : decide (b.ls.length ≤ 8) = false := by exact decide_eq_false (by omega)
      exact ⟨by unfold boOk; simp only [hc6, hl16, hc9, hl17, Bool.and_true, Bool.true_and, Bool.and_false, Bool.false_and, Bool.or_true, Bool.true_or, Bool.or_false, Bool.false_or, Bool.not_true, Bool.not_false, Bool.and_self], hB⟩
    replace s28 : a22.eval (.tmp 28) = .bool false := (s28).trans (congrArg Value.bool (decide_eq_false hc14))
    refine c_false s28 ?_
    refine wp_skip ?_
    refine hK12 _ _ ?_
    clear hK12
    refine wp_seq_k fun K18 hK18 => ?_
    refine wp_seq_k fun K19 hK19 => ?_
    refine wp_region_lit ?_
    refine q_v p22.s rfl rfl rfl (g_field (r := 3) rfl s1 Try.underlying32 rfl (fun w => Try.sizeOf25 w) rfl rfl ?_)
    intro a23 p23
    refine q_v p23.s rfl rfl rfl (g_load rfl p23.v Try.isAgg25 (box_cell h_q2 rfl) ?_)
    intro a24 p24
    refine q_v p24.s rfl rfl rfl (g_len (e := _) rfl Try.underlying25 p24.v ?_)
    intro a25 p25
    refine q_v p25.s rfl rfl rfl (g_move rfl rfl ?_)
    intro a26 p26
    have s32 : a26.eval (.tmp 32) = .int .i64 0 := p26.v
    refine wpList_nil ?_
    have kc22 := ((((Kps.nil a22).u p23).u p24).u p25).u p26
    replace s1 := kc22.k s1 rfl
    replace s2 := kc22.k s2 rfl
    replace s30 := p26.k (p25.k p24.v rfl) rfl
    replace s31 := p26.k p25.v rfl
    clear kc22
    refine hK19 _ _ ?_
    clear hK19
    refine wp_block ?_
    refine wp_loop (fun a wr => ∃ (k : Nat), (St 129 a) ∧ (a.eval (.tmp 1) = .pointer (some ⟨q2, 0, none⟩)) ∧ (a.eval (.tmp 2) = .bool false) ∧ (a.eval (.tmp 30) = .slice lA b.ls.length lc) ∧ (a.eval (.tmp 31) = .int .i64 ((b.ls.length : Nat) : Int)) ∧ (a.eval (.tmp 32) = .int .i64 ((k : Nat) : Int)) ∧ (Below w.heap.size w wr) ∧ (wr.heap[q2]? = some (.cells #[.int .i64 b.clk, .slice pA b.ps.length pc, .bool b.safe, .slice lA b.ls.length lc, .slice oA b.os.length oc, .slice dA b.ds.length dc, .int .i64 b.room, .slice rA b.rs.length rc, .slice xA b.xs.length xc, .int .i64 b.made, .int .i64 b.taken, .slice qA b.qs.length qc] 32 (0, 0))) ∧ (k ≤ b.ls.length) ∧ ((b.ls.take k).all (limOk) = true)) (fun a _ => b.ls.length - (intOf (a.eval (.tmp 32))).toNat) (⟨0, p26.s, s1, s2, s30, s31, s32, hB, h_q2, Nat.zero_le _, rfl⟩) ?_
    intro a27 w21 hIv
    obtain ⟨k, hs, s1, s2, s30, s31, s32, hB, h_q2, hk, hst⟩ := hIv
    have mu22 := s32
    refine wp_seq_k fun K23 hK23 => ?_
    refine wp_region_lit ?_
    refine q_v hs rfl rfl rfl (g_lss rfl s32 s31 ?_)
    intro a28 p28
    refine wpList_nil ?_
    replace s1 := p28.k s1 rfl
    replace s2 := p28.k s2 rfl
    replace s30 := p28.k s30 rfl
    replace s31 := p28.k s31 rfl
    replace s32 := p28.k s32 rfl
    replace s33 := p28.v
    refine hK23 _ _ ?_
    clear hK23
    refine wp_seq_k fun K24 hK24 => ?_
    by_cases hc25 : ((k : Nat) : Int) < ((b.ls.length : Nat) : Int)
    · replace s33 : a28.eval (.tmp 33) = .bool true := (s33).trans (congrArg Value.bool (decide_eq_true hc25))
      refine c_true s33 ?_
      refine wp_skip ?_
      refine hK24 _ _ ?_
      clear hK24
      refine wp_seq_k fun K26 hK26 => ?_
      refine wp_block ?_
      refine wp_seq_k fun K27 hK27 => ?_
      have hlt : k < b.ls.length := by omega
      refine wp_region_lit ?_
      obtain ⟨b28, o29, hA30, hl_hc31, hc31⟩ := Rd.get cLimit_len (hr_l.below hB) rfl (i := k) (by omega)
      refine q_v p28.s rfl rfl rfl (g_index (r := o29 + k * 3) (k := k) rfl (s30.trans (slice_at hA30)) s32 Try.underlying25 (fun w => Try.sizeOf36 w) (by omega) rfl ?_)
      intro a29 p29
      refine q_v p29.s rfl rfl rfl (g_loadA (l := cLimit b.ls[k]) rfl p29.v Try.isAgg36 Try.sizeOf36 rfl (fun j u hu => by rw [Nat.add_assoc]; exact hc31 j u (by have := (List.getElem?_eq_some_iff.1 hu).1; exact this) hu) ?_)
      intro a30 p30
      refine q_v p30.s rfl rfl rfl ?_
      refine g_alloc rfl Try.zeroValue36 rfl ?_
      intro q32 w33 N_q32
      have n_q2_q32 := N_q32.ne ⟨lt_of_block h_q2⟩
      have n_q32_q2 := n_q2_q32.symm
      have g_q32 : GeB w.heap.size q32 := ⟨Nat.le_trans hB.size N_q32.lo⟩
      replace h_q2 := keep_below h_q2 N_q32.below
      replace hB := below_new hB hB.size N_q32
      have h_q32 := N_q32.here
      clear N_q32
      intro a31 p31
      refine q_eff rfl rfl ?_
      refine g_storeB rfl p31.v (p31.k p30.v rfl) Try.sizeOf36 rfl rfl h_q32 rfl ?_
      intro w34 W_w34
      replace h_q2 := keep_wrote h_q2 W_w34 n_q32_q2
      replace h_q32 := W_w34.here
      replace hB := below_wrote hB hB.size W_w34 g_q32.le
      clear W_w34
      refine wpList_nil ?_
      have kc28 := (((Kps.nil a28).u p29).u p30).u p31
      replace s1 := kc28.k s1 rfl
      replace s2 := kc28.k s2 rfl
      replace s30 := kc28.k s30 rfl
      replace s31 := kc28.k s31 rfl
      replace s32 := kc28.k s32 rfl
      replace s33 := kc28.k s33 rfl
      replace s4 := p31.v
      clear kc28
      refine hK27 _ _ ?_
      clear hK27
      refine wp_seq_k fun K35 hK35 => ?_
      refine wp_region_lit ?_
      refine q_v p31.s rfl rfl rfl (g_field (r := 0) rfl s4 Try.underlying36 rfl (fun w => Try.sizeOf3 w) rfl rfl ?_)
      intro a32 p32
      refine q_v p32.s rfl rfl rfl (g_load rfl p32.v Try.isAgg3 (box_cell h_q32 rfl) ?_)
      intro a33 p33
      refine q_v p33.s rfl rfl rfl ?_
      refine g_call rfl rfl Try.call43 (arr3 p33.v rfl rfl) ?_
      refine (between_any _ _ _ _).mono ?_
      rintro e w' ⟨rfl, rfl⟩
      refine ⟨_, rfl, ?_⟩
      intro a34 p34
      refine q_v p34.s rfl rfl rfl (g_not rfl p34.v ?_)
      intro a35 p35
      refine q_v p35.s rfl rfl rfl (g_move rfl p35.v ?_)
      intro a36 p36
      cases hc36 : inB (b.ls[k].f0) 0 7
      · have s38 : a34.eval (.tmp 38) = .bool false := (p34.v).trans (congrArg Value.bool hc36)
        have s39 : a35.eval (.tmp 39) = .bool true := (p35.v).trans (congrArg (fun b => Value.bool (!b)) hc36)
        have s40 : a36.eval (.tmp 40) = .bool true := (p36.v).trans (congrArg (fun b => Value.bool (!b)) hc36)
        refine q_s p36.s rfl rfl s40 rfl rfl ?_
        intro a37 p37
        refine q_s p37.s rfl rfl (p37.k s40 rfl) rfl rfl ?_
        intro a38 p38
        refine q_s p38.s rfl rfl (p38.k (p37.k s40 rfl) rfl) rfl rfl ?_
        intro a39 p39
        refine q_s p39.s rfl rfl (p39.k (p38.k (p37.k s40 rfl) rfl) rfl) rfl rfl ?_
        intro a40 p40
        refine q_v p40.s rfl rfl rfl (g_pick_t rfl (p40.k (p39.k (p38.k (p37.k s40 rfl) rfl) rfl) rfl) rfl ?_)
        intro a41 p41
        have s45 : a41.eval (.tmp 45) = .bool true := p41.v
        refine q_v p41.s rfl rfl rfl (g_move rfl s45 ?_)
        intro a42 p42
        refine q_s p42.s rfl rfl p42.v rfl rfl ?_
        intro a43 p43
        refine q_s p43.s rfl rfl (p43.k p42.v rfl) rfl rfl ?_
        intro a44 p44
        refine q_s p44.s rfl rfl (p44.k (p43.k p42.v rfl) rfl) rfl rfl ?_
        intro a45 p45
        refine q_s p45.s rfl rfl (p45.k (p44.k (p43.k p42.v rfl) rfl) rfl) rfl rfl ?_
        intro a46 p46
        refine q_v p46.s rfl rfl rfl (g_pick_t rfl (p46.k (p45.k (p44.k (p43.k p42.v rfl) rfl) rfl) rfl) rfl ?_)
        intro a47 p47
        have s51 : a47.eval (.tmp 51) = .bool true := p47.v
        refine wpList_nil ?_
        have kc31 := ((((((((((((((((Kps.nil a31).u p32).u p33).u p34).u p35).u p36).u p37).u p38).u p39).u p40).u p41).u p42).u p43).u p44).u p45).u p46).u p47
        replace s1 := kc31.k s1 rfl
        replace s2 := kc31.k s2 rfl
        replace s30 := kc31.k s30 rfl
        replace s31 := kc31.k s31 rfl
        replace s32 := kc31.k s32 rfl
        replace s33 := kc31.k s33 rfl
        replace s4 := kc31.k s4 rfl
        clear kc31
        refine hK35 _ _ ?_
        clear hK35
        refine c_true s51 ?_
        refine wp_seq_k fun K37 hK37 => ?_
        refine wp_region_lit ?_
        refine q_v p47.s rfl rfl rfl (g_assign rfl rfl ?_)
        intro a48 p48
        have s2 : a48.eval (.tmp 2) = .bool false := p48.v
        refine wpList_nil ?_
        replace s1 := p48.k s1 rfl
        replace s30 := p48.k s30 rfl
        replace s31 := p48.k s31 rfl
        replace s32 := p48.k s32 rfl
        replace s33 := p48.k s33 rfl
        replace s4 := p48.k s4 rfl
        replace s51 := p48.k s51 rfl
        refine hK37 _ _ ?_
        clear hK37
        refine wp_ret ?_
        try dsimp only [Exit.then, Exit.inBlock]
        refine ret1 p48.s Try.results21 (res_tmp s2) ?_
        have hl38 : decide (b.ps.length = 8) = true := by exact decide_eq_true (by omega)
        have hl39 : decide (b.ls.length ≤ 8) = true := by exact decide_eq_true (by omega)
        have hat : (limOk) b.ls[k] = false := by unfold limOk; simp only [hc36, Bool.and_true, Bool.true_and, Bool.and_false, Bool.false_and, Bool.or_true, Bool.true_or, Bool.or_false, Bool.false_or, Bool.not_true, Bool.not_false, Bool.and_self]
        have hx40 : b.ls.all (limOk) = false := all_fail (P := limOk) hlt hat
        exact ⟨by unfold boOk; simp only [hc6, hl38, hc9, hl39, hx40, Bool.and_true, Bool.true_and, Bool.and_false, Bool.false_and, Bool.or_true, Bool.true_or, Bool.or_false, Bool.false_or, Bool.not_true, Bool.not_false, Bool.and_self], hB⟩
      have s38 : a34.eval (.tmp 38) = .bool true := (p34.v).trans (congrArg Value.bool hc36)
      have s39 : a35.eval (.tmp 39) = .bool false := (p35.v).trans (congrArg (fun b => Value.bool (!b)) hc36)
      have s40 : a36.eval (.tmp 40) = .bool false := (p36.v).trans (congrArg (fun b => Value.bool (!b)) hc36)
      refine q_t p36.s rfl rfl s40 rfl rfl (g_field (r := 1) rfl (p36.k (p35.k (p34.k (p33.k (p32.k s4 rfl) rfl) rfl) rfl) rfl) Try.underlying36 rfl (fun w => Try.sizeOf3 w) rfl rfl ?_)
      intro a37 p37
      refine q_t p37.s rfl rfl (p37.k s40 rfl) rfl rfl (g_load rfl p37.v Try.isAgg3 (box_cell h_q32 rfl) ?_)
      intro a38 p38
      refine q_t p38.s rfl rfl (p38.k (p37.k s40 rfl) rfl) rfl rfl ?_
      refine g_call rfl rfl Try.call43 (arr3 p38.v rfl rfl) ?_
      refine (between_any _ _ _ _).mono ?_
      rintro e w' ⟨rfl, rfl⟩
      refine ⟨_, rfl, ?_⟩
      intro a39 p39
      refine q_t p39.s rfl rfl (p39.k (p38.k (p37.k s40 rfl) rfl) rfl) rfl rfl (g_not rfl p39.v ?_)
      intro a40 p40
      refine q_v p40.s rfl rfl rfl (g_pick_f rfl (p40.k (p39.k (p38.k (p37.k s40 rfl) rfl) rfl) rfl) p40.v ?_)
      intro a41 p41
      have s45 : a41.eval (.tmp 45) = .bool (!(inB (b.ls[k].f1) 0 65535)) := p41.v
      refine q_v p41.s rfl rfl rfl (g_move rfl s45 ?_)
      intro a42 p42
      cases hc41 : inB (b.ls[k].f1) 0 65535
      · have s43 : a39.eval (.tmp 43) = .bool false := (p39.v).trans (congrArg Value.bool hc41)
        have s44 : a40.eval (.tmp 44) = .bool true := (p40.v).trans (congrArg (fun b => Value.bool (!b)) hc41)
        replace s45 : a41.eval (.tmp 45) = .bool true := (s45).trans (congrArg (fun b => Value.bool (!b)) hc41)
        have s46 : a42.eval (.tmp 46) = .bool true := (p42.v).trans (congrArg (fun b => Value.bool (!b)) hc41)
        refine q_s p42.s rfl rfl s46 rfl rfl ?_
        intro a43 p43
        refine q_s p43.s rfl rfl (p43.k s46 rfl) rfl rfl ?_
        intro a44 p44
        refine q_s p44.s rfl rfl (p44.k (p43.k s46 rfl) rfl) rfl rfl ?_
        intro a45 p45
        refine q_s p45.s rfl rfl (p45.k (p44.k (p43.k s46 rfl) rfl) rfl) rfl rfl ?_
        intro a46 p46
        refine q_v p46.s rfl rfl rfl (g_pick_t rfl (p46.k (p45.k (p44.k (p43.k s46 rfl) rfl) rfl) rfl) rfl ?_)
        intro a47 p47
        have s51 : a47.eval (.tmp 51) = .bool true := p47.v
        refine wpList_nil ?_
        have kc31 := ((((((((((((((((Kps.nil a31).u p32).u p33).u p34).u p35).u p36).u p37).u p38).u p39).u p40).u p41).u p42).u p43).u p44).u p45).u p46).u p47
        replace s1 := kc31.k s1 rfl
        replace s2 := kc31.k s2 rfl
        replace s30 := kc31.k s30 rfl
        replace s31 := kc31.k s31 rfl
        replace s32 := kc31.k s32 rfl
        replace s33 := kc31.k s33 rfl
        replace s4 := kc31.k s4 rfl
        clear kc31
        refine hK35 _ _ ?_
        clear hK35
        refine c_true s51 ?_
        refine wp_seq_k fun K42 hK42 => ?_
        refine wp_region_lit ?_
        refine q_v p47.s rfl rfl rfl (g_assign rfl rfl ?_)
        intro a48 p48
        have s2 : a48.eval (.tmp 2) = .bool false := p48.v
        refine wpList_nil ?_
        replace s1 := p48.k s1 rfl
        replace s30 := p48.k s30 rfl
        replace s31 := p48.k s31 rfl
        replace s32 := p48.k s32 rfl
        replace s33 := p48.k s33 rfl
        replace s4 := p48.k s4 rfl
        replace s51 := p48.k s51 rfl
        refine hK42 _ _ ?_
        clear hK42
        refine wp_ret ?_
        try dsimp only [Exit.then, Exit.inBlock]
        refine ret1 p48.s Try.results21 (res_tmp s2) ?_
        have hl43 : decide (b.ps.length = 8) = true := by exact decide_eq_true (by omega)
        have hl44 : decide (b.ls.length ≤ 8) = true := by exact decide_eq_true (by omega)
        have hat : (limOk) b.ls[k] = false := by unfold limOk; simp only [hc36, hc41, Bool.and_true, Bool.true_and, Bool.and_false, Bool.false_and, Bool.or_true, Bool.true_or, Bool.or_false, Bool.false_or, Bool.not_true, Bool.not_false, Bool.and_self]
        have hx45 : b.ls.all (limOk) = false := all_fail (P := limOk) hlt hat
        exact ⟨by unfold boOk; simp only [hc6, hl43, hc9, hl44, hx45, Bool.and_true, Bool.true_and, Bool.and_false, Bool.false_and, Bool.or_true, Bool.true_or, Bool.or_false, Bool.false_or, Bool.not_true, Bool.not_false, Bool.and_self], hB⟩
      have s43 : a39.eval (.tmp 43) = .bool true := (p39.v).trans (congrArg Value.bool hc41)
      have s44 : a40.eval (.tmp 44) = .bool false := (p40.v).trans (congrArg (fun b => Value.bool (!b)) hc41)
      replace s45 : a41.eval (.tmp 45) = .bool false := (s45).trans (congrArg (fun b => Value.bool (!b)) hc41)
      have s46 : a42.eval (.tmp 46) = .bool false := (p42.v).trans (congrArg (fun b => Value.bool (!b)) hc41)
      refine q_t p42.s rfl rfl s46 rfl rfl (g_field (r := 2) rfl (p42.k (p41.k (p40.k (p39.k (p38.k (p37.k (p36.k (p35.k (p34.k (p33.k (p32.k s4 rfl) rfl) rfl) rfl) rfl) rfl) rfl) rfl) rfl) rfl) rfl) Try.underlying36 rfl (fun w => Try.sizeOf3 w) rfl rfl ?_)
      intro a43 p43
      refine q_t p43.s rfl rfl (p43.k s46 rfl) rfl rfl (g_load rfl p43.v Try.isAgg3 (box_cell h_q32 rfl) ?_)
      intro a44 p44
      refine q_t p44.s rfl rfl (p44.k (p43.k s46 rfl) rfl) rfl rfl ?_
      refine g_call rfl rfl Try.call43 (arr3 p44.v rfl rfl) ?_
      refine (between_any _ _ _ _).mono ?_
      rintro e w' ⟨rfl, rfl⟩
      refine ⟨_, rfl, ?_⟩
      intro a45 p45
      refine q_t p45.s rfl rfl (p45.k (p44.k (p43.k s46 rfl) rfl) rfl) rfl rfl (g_not rfl p45.v ?_)
      intro a46 p46
      refine q_v p46.s rfl rfl rfl (g_pick_f rfl (p46.k (p45.k (p44.k (p43.k s46 rfl) rfl) rfl) rfl) p46.v ?_)
      intro a47 p47
      have s51 : a47.eval (.tmp 51) = .bool (!(inB (b.ls[k].f2) 0 65535)) := p47.v
      refine wpList_nil ?_
      have kc31 := ((((((((((((((((Kps.nil a31).u p32).u p33).u p34).u p35).u p36).u p37).u p38).u p39).u p40).u p41).u p42).u p43).u p44).u p45).u p46).u p47
      replace s1 := kc31.k s1 rfl
      replace s2 := kc31.k s2 rfl
      replace s30 := kc31.k s30 rfl
      replace s31 := kc31.k s31 rfl
      replace s32 := kc31.k s32 rfl
      replace s33 := kc31.k s33 rfl
      replace s4 := kc31.k s4 rfl
      clear kc31
      refine hK35 _ _ ?_
      clear hK35
      cases hc46 : inB (b.ls[k].f2) 0 65535
      · replace s51 : a47.eval (.tmp 51) = .bool true := (s51).trans (congrArg (fun b => Value.bool (!b)) hc46)
        refine c_true s51 ?_
        refine wp_seq_k fun K47 hK47 => ?_
        refine wp_region_lit ?_
        refine q_v p47.s rfl rfl rfl (g_assign rfl rfl ?_)
        intro a48 p48
        have s2 : a48.eval (.tmp 2) = .bool false := p48.v
        refine wpList_nil ?_
        replace s1 := p48.k s1 rfl
        replace s30 := p48.k s30 rfl
        replace s31 := p48.k s31 rfl
        replace s32 := p48.k s32 rfl
        replace s33 := p48.k s33 rfl
        replace s4 := p48.k s4 rfl
        replace s51 := p48.k s51 rfl
        refine hK47 _ _ ?_
        clear hK47
        refine wp_ret ?_
        try dsimp only [Exit.then, Exit.inBlock]
        refine ret1 p48.s Try.results21 (res_tmp s2) ?_
        have hl48 : decide (b.ps.length = 8) = true := by exact decide_eq_true (by omega)
        have hl49 : decide (b.ls.length ≤ 8) = true := by exact decide_eq_true (by omega)
        have hat : (limOk) b.ls[k] = false := by unfold limOk; simp only [hc36, hc41, hc46, Bool.and_true, Bool.true_and, Bool.and_false, Bool.false_and, Bool.or_true, Bool.true_or, Bool.or_false, Bool.false_or, Bool.not_true, Bool.not_false, Bool.and_self]
        have hx50 : b.ls.all (limOk) = false := all_fail (P := limOk) hlt hat
        exact ⟨by unfold boOk; simp only [hc6, hl48, hc9, hl49, hx50, Bool.and_true, Bool.true_and, Bool.and_false, Bool.false_and, Bool.or_true, Bool.true_or, Bool.or_false, Bool.false_or, Bool.not_true, Bool.not_false, Bool.and_self], hB⟩
      replace s51 : a47.eval (.tmp 51) = .bool false := (s51).trans (congrArg (fun b => Value.bool (!b)) hc46)
      refine c_false s51 ?_
      refine wp_skip ?_
      refine hK26 _ _ ?_
      clear hK26
      refine wp_region_lit ?_
      refine q_v p47.s rfl rfl rfl (g_add (r := ((k + 1 : Nat) : Int)) rfl s32 rfl (by omega) (by omega) ?_)
      intro a48 p48
      refine q_v p48.s rfl rfl rfl (g_move rfl p48.v ?_)
      intro a49 p49
      refine wpList_nil ?_
      replace s1 := p49.k (p48.k s1 rfl) rfl
      replace s2 := p49.k (p48.k s2 rfl) rfl
      replace s30 := p49.k (p48.k s30 rfl) rfl
      replace s31 := p49.k (p48.k s31 rfl) rfl
      replace s32 := p49.v
      replace s33 := p49.k (p48.k s33 rfl) rfl
      replace s4 := p49.k (p48.k s4 rfl) rfl
      replace s51 := p49.k (p48.k s51 rfl) rfl
      have hat : (limOk) b.ls[k] = true := by unfold limOk; simp only [hc6, decide_eq_true hc8, hc9, decide_eq_false hc14, decide_eq_true hc25, hc36, hc41, hc46, Bool.and_true, Bool.true_and, Bool.and_false, Bool.false_and, Bool.or_true, Bool.true_or, Bool.or_false, Bool.false_or, Bool.not_true, Bool.not_false, Bool.and_self]
      refine show _ ∧ _ from ⟨⟨k + 1, p49.s, s1, s2, s30, s31, s32, hB, h_q2, (by omega), (all_step hlt hst hat)⟩, ?_⟩
      show b.ls.length - (intOf (a49.eval (.tmp 32))).toNat < b.ls.length - (intOf (a27.eval (.tmp 32))).toNat
      rw [s32, mu22]
      simp only [intOf]
      omega
    replace s33 : a28.eval (.tmp 33) = .bool false := (s33).trans (congrArg Value.bool (decide_eq_false hc25))
    refine c_false s33 ?_
    refine wp_exit ?_
    refine hK18 _ _ ?_
    clear hK18
    refine wp_seq_k fun K51 hK51 => ?_
    refine wp_seq_k fun K52 hK52 => ?_
    have hls : b.ls.all (limOk) = true := all_done (by omega) hst
    refine wp_region_lit ?_
    refine q_v p28.s rfl rfl rfl (g_field (r := 9) rfl s1 Try.underlying32 rfl (fun w => Try.sizeOf3 w) rfl rfl ?_)
    intro a29 p29
    refine q_v p29.s rfl rfl rfl (g_load rfl p29.v Try.isAgg3 (box_cell h_q2 rfl) ?_)
    intro a30 p30
    refine q_v p30.s rfl rfl rfl ?_
    refine g_call rfl rfl Try.call43 (arr3 p30.v rfl rfl) ?_
    refine (between_any _ _ _ _).mono ?_
    rintro e w' ⟨rfl, rfl⟩
    refine ⟨_, rfl, ?_⟩
    intro a31 p31
    refine q_v p31.s rfl rfl rfl (g_not rfl p31.v ?_)
    intro a32 p32
    refine q_v p32.s rfl rfl rfl (g_move rfl p32.v ?_)
    intro a33 p33
    cases hc53 : inB b.made 0 65535
    · have s55 : a31.eval (.tmp 55) = .bool false := (p31.v).trans (congrArg Value.bool hc53)
      have s56 : a32.eval (.tmp 56) = .bool true := (p32.v).trans (congrArg (fun b => Value.bool (!b)) hc53)
      have s57 : a33.eval (.tmp 57) = .bool true := (p33.v).trans (congrArg (fun b => Value.bool (!b)) hc53)
      refine q_s p33.s rfl rfl s57 rfl rfl ?_
      intro a34 p34
      refine q_s p34.s rfl rfl (p34.k s57 rfl) rfl rfl ?_
      intro a35 p35
      refine q_s p35.s rfl rfl (p35.k (p34.k s57 rfl) rfl) rfl rfl ?_
      intro a36 p36
      refine q_s p36.s rfl rfl (p36.k (p35.k (p34.k s57 rfl) rfl) rfl) rfl rfl ?_
      intro a37 p37
      refine q_v p37.s rfl rfl rfl (g_pick_t rfl (p37.k (p36.k (p35.k (p34.k s57 rfl) rfl) rfl) rfl) rfl ?_)
      intro a38 p38
      have s62 : a38.eval (.tmp 62) = .bool true := p38.v
      refine q_v p38.s rfl rfl rfl (g_move rfl s62 ?_)
      intro a39 p39
      refine q_s p39.s rfl rfl p39.v rfl rfl ?_
      intro a40 p40
      refine q_s p40.s rfl rfl (p40.k p39.v rfl) rfl rfl ?_
      intro a41 p41
      refine q_s p41.s rfl rfl (p41.k (p40.k p39.v rfl) rfl) rfl rfl ?_
      intro a42 p42
      refine q_s p42.s rfl rfl (p42.k (p41.k (p40.k p39.v rfl) rfl) rfl) rfl rfl ?_
      intro a43 p43
      refine q_s p43.s rfl rfl (p43.k (p42.k (p41.k (p40.k p39.v rfl) rfl) rfl) rfl) rfl rfl ?_
      intro a44 p44
      refine q_s p44.s rfl rfl (p44.k (p43.k (p42.k (p41.k (p40.k p39.v rfl) rfl) rfl) rfl) rfl) rfl rfl ?_
      intro a45 p45
      refine q_v p45.s rfl rfl rfl (g_pick_t rfl (p45.k (p44.k (p43.k (p42.k (p41.k (p40.k p39.v rfl) rfl) rfl) rfl) rfl) rfl) rfl ?_)
      intro a46 p46
      have s70 : a46.eval (.tmp 70) = .bool true := p46.v
      refine wpList_nil ?_
      have kc28 := ((((((((((((((((((Kps.nil a28).u p29).u p30).u p31).u p32).u p33).u p34).u p35).u p36).u p37).u p38).u p39).u p40).u p41).u p42).u p43).u p44).u p45).u p46
      replace s1 := kc28.k s1 rfl
      replace s2 := kc28.k s2 rfl
      clear kc28
      refine hK52 _ _ ?_
      clear hK52
      refine c_true s70 ?_
      refine wp_seq_k fun K54 hK54 => ?_
      refine wp_region_lit ?_
      refine q_v p46.s rfl rfl rfl (g_assign rfl rfl ?_)
      intro a47 p47
      have s2 : a47.eval (.tmp 2) = .bool false := p47.v
      refine wpList_nil ?_
      replace s1 := p47.k s1 rfl
      refine hK54 _ _ ?_
      clear hK54
      refine wp_ret ?_
      try dsimp only [Exit.then, Exit.inBlock]
      refine ret1 p47.s Try.results21 (res_tmp s2) ?_
      have hl55 : decide (b.ps.length = 8) = true := by exact decide_eq_true (by omega)
      have hl56 : decide (b.ls.length ≤ 8) = true := by exact decide_eq_true (by omega)
      exact ⟨by unfold boOk; simp only [hc6, hl55, hc9, hl56, hls, hc53, Bool.and_true, Bool.true_and, Bool.and_false, Bool.false_and, Bool.or_true, Bool.true_or, Bool.or_false, Bool.false_or, Bool.not_true, Bool.not_false, Bool.and_self], hB⟩
    have htk_made := inB_true hc53
    have s55 : a31.eval (.tmp 55) = .bool true := (p31.v).trans (congrArg Value.bool hc53)
    have s56 : a32.eval (.tmp 56) = .bool false := (p32.v).trans (congrArg (fun b => Value.bool (!b)) hc53)
    have s57 : a33.eval (.tmp 57) = .bool false := (p33.v).trans (congrArg (fun b => Value.bool (!b)) hc53)
    refine q_t p33.s rfl rfl s57 rfl rfl (g_field (r := 10) rfl (p33.k (p32.k (p31.k (p30.k (p29.k s1 rfl) rfl) rfl) rfl) rfl) Try.underlying32 rfl (fun w => Try.sizeOf3 w) rfl rfl ?_)
    intro a34 p34
    refine q_t p34.s rfl rfl (p34.k s57 rfl) rfl rfl (g_load rfl p34.v Try.isAgg3 (box_cell h_q2 rfl) ?_)
    intro a35 p35
    refine q_t p35.s rfl rfl (p35.k (p34.k s57 rfl) rfl) rfl rfl ?_
    refine g_call rfl rfl Try.call43 (arr3 p35.v rfl rfl) ?_
    refine (between_any _ _ _ _).mono ?_
    rintro e w' ⟨rfl, rfl⟩
    refine ⟨_, rfl, ?_⟩
    intro a36 p36
    refine q_t p36.s rfl rfl (p36.k (p35.k (p34.k s57 rfl) rfl) rfl) rfl rfl (g_not rfl p36.v ?_)
    intro a37 p37
    refine q_v p37.s rfl rfl rfl (g_pick_f rfl (p37.k (p36.k (p35.k (p34.k s57 rfl) rfl) rfl) rfl) p37.v ?_)
    intro a38 p38
    have s62 : a38.eval (.tmp 62) = .bool (!(inB b.taken 0 65535)) := p38.v
    refine q_v p38.s rfl rfl rfl (g_move rfl s62 ?_)
    intro a39 p39
    cases hc57 : inB b.taken 0 65535
    · have s60 : a36.eval (.tmp 60) = .bool false := (p36.v).trans (congrArg Value.bool hc57)
      have s61 : a37.eval (.tmp 61) = .bool true := (p37.v).trans (congrArg (fun b => Value.bool (!b)) hc57)
      replace s62 : a38.eval (.tmp 62) = .bool true := (s62).trans (congrArg (fun b => Value.bool (!b)) hc57)
      have s63 : a39.eval (.tmp 63) = .bool true := (p39.v).trans (congrArg (fun b => Value.bool (!b)) hc57)
      refine q_s p39.s rfl rfl s63 rfl rfl ?_
      intro a40 p40
      refine q_s p40.s rfl rfl (p40.k s63 rfl) rfl rfl ?_
      intro a41 p41
      refine q_s p41.s rfl rfl (p41.k (p40.k s63 rfl) rfl) rfl rfl ?_
      intro a42 p42
      refine q_s p42.s rfl rfl (p42.k (p41.k (p40.k s63 rfl) rfl) rfl) rfl rfl ?_
      intro a43 p43
      refine q_s p43.s rfl rfl (p43.k (p42.k (p41.k (p40.k s63 rfl) rfl) rfl) rfl) rfl rfl ?_
      intro a44 p44
      refine q_s p44.s rfl rfl (p44.k (p43.k (p42.k (p41.k (p40.k s63 rfl) rfl) rfl) rfl) rfl) rfl rfl ?_
      intro a45 p45
      refine q_v p45.s rfl rfl rfl (g_pick_t rfl (p45.k (p44.k (p43.k (p42.k (p41.k (p40.k s63 rfl) rfl) rfl) rfl) rfl) rfl) rfl ?_)
      intro a46 p46
      have s70 : a46.eval (.tmp 70) = .bool true := p46.v
      refine wpList_nil ?_
      have kc28 := ((((((((((((((((((Kps.nil a28).u p29).u p30).u p31).u p32).u p33).u p34).u p35).u p36).u p37).u p38).u p39).u p40).u p41).u p42).u p43).u p44).u p45).u p46
      replace s1 := kc28.k s1 rfl
      replace s2 := kc28.k s2 rfl
      clear kc28
      refine hK52 _ _ ?_
      clear hK52
      refine c_true s70 ?_
      refine wp_seq_k fun K58 hK58 => ?_
      refine wp_region_lit ?_
      refine q_v p46.s rfl rfl rfl (g_assign rfl rfl ?_)
      intro a47 p47
      have s2 : a47.eval (.tmp 2) = .bool false := p47.v
      refine wpList_nil ?_
      replace s1 := p47.k s1 rfl
      refine hK58 _ _ ?_
      clear hK58
      refine wp_ret ?_
      try dsimp only [Exit.then, Exit.inBlock]
      refine ret1 p47.s Try.results21 (res_tmp s2) ?_
      have hl59 : decide (b.ps.length = 8) = true := by exact decide_eq_true (by omega)
      have hl60 : decide (b.ls.length ≤ 8) = true := by exact decide_eq_true (by omega)
      exact ⟨by unfold boOk; simp only [hc6, hl59, hc9, hl60, hls, hc53, hc57, Bool.and_true, Bool.true_and, Bool.and_false, Bool.false_and, Bool.or_true, Bool.true_or, Bool.or_false, Bool.false_or, Bool.not_true, Bool.not_false, Bool.and_self], hB⟩
    have htk_taken := inB_true hc57
    have s60 : a36.eval (.tmp 60) = .bool true := (p36.v).trans (congrArg Value.bool hc57)
    have s61 : a37.eval (.tmp 61) = .bool false := (p37.v).trans (congrArg (fun b => Value.bool (!b)) hc57)
    replace s62 : a38.eval (.tmp 62) = .bool false := (s62).trans (congrArg (fun b => Value.bool (!b)) hc57)
    have s63 : a39.eval (.tmp 63) = .bool false := (p39.v).trans (congrArg (fun b => Value.bool (!b)) hc57)
    refine q_t p39.s rfl rfl s63 rfl rfl (g_field (r := 4) rfl (p39.k (p38.k (p37.k (p36.k (p35.k (p34.k (p33.k (p32.k (p31.k (p30.k (p29.k s1 rfl) rfl) rfl) rfl) rfl) rfl) rfl) rfl) rfl) rfl) rfl) Try.underlying32 rfl (fun w => Try.sizeOf26 w) rfl rfl ?_)
    intro a40 p40
    refine q_t p40.s rfl rfl (p40.k s63 rfl) rfl rfl (g_load rfl p40.v Try.isAgg26 (box_cell h_q2 rfl) ?_)
    intro a41 p41
    refine q_t p41.s rfl rfl (p41.k (p40.k s63 rfl) rfl) rfl rfl (g_field (r := 10) rfl (p41.k (p40.k (p39.k (p38.k (p37.k (p36.k (p35.k (p34.k (p33.k (p32.k (p31.k (p30.k (p29.k s1 rfl) rfl) rfl) rfl) rfl) rfl) rfl) rfl) rfl) rfl) rfl) rfl) rfl) Try.underlying32 rfl (fun w => Try.sizeOf3 w) rfl rfl ?_)
    intro a42 p42
    refine q_t p42.s rfl rfl (p42.k (p41.k (p40.k s63 rfl) rfl) rfl) rfl rfl (g_load rfl p42.v Try.isAgg3 (box_cell h_q2 rfl) ?_)
    intro a43 p43
    refine q_t p43.s rfl rfl (p43.k (p42.k (p41.k (p40.k s63 rfl) rfl) rfl) rfl) rfl rfl ?_
    refine g_call rfl rfl Try.call52 (arr2 (p43.k (p42.k p41.v rfl) rfl) p43.v) ?_
    refine (ordersOk_any _ _ _ b.os _ _ rfl (by omega) (by omega) (by omega) (hr_o.below hB)).mono ?_
    rintro e w62 ⟨rfl, hb61⟩
    refine ⟨_, rfl, ?_⟩
    replace h_q2 := keep_below h_q2 hb61
    replace hB := hB.trans (hb61.mono hB.size)
    clear hb61
    intro a44 p44
    refine q_t p44.s rfl rfl (p44.k (p43.k (p42.k (p41.k (p40.k s63 rfl) rfl) rfl) rfl) rfl) rfl rfl (g_not rfl p44.v ?_)
    intro a45 p45
    refine q_v p45.s rfl rfl rfl (g_pick_f rfl (p45.k (p44.k (p43.k (p42.k (p41.k (p40.k s63 rfl) rfl) rfl) rfl) rfl) rfl) p45.v ?_)
    intro a46 p46
    have s70 : a46.eval (.tmp 70) = .bool (!(osOk b.taken b.os)) := p46.v
    refine wpList_nil ?_
    have kc28 := ((((((((((((((((((Kps.nil a28).u p29).u p30).u p31).u p32).u p33).u p34).u p35).u p36).u p37).u p38).u p39).u p40).u p41).u p42).u p43).u p44).u p45).u p46
    replace s1 := kc28.k s1 rfl
    replace s2 := kc28.k s2 rfl
    clear kc28
    refine hK52 _ _ ?_
    clear hK52
    cases hc63 : osOk b.taken b.os
    · replace s70 : a46.eval (.tmp 70) = .bool true := (s70).trans (congrArg (fun b => Value.bool (!b)) hc63)
      refine c_true s70 ?_
      refine wp_seq_k fun K64 hK64 => ?_
      refine wp_region_lit ?_
      refine q_v p46.s rfl rfl rfl (g_assign rfl rfl ?_)
      intro a47 p47
      have s2 : a47.eval (.tmp 2) = .bool false := p47.v
      refine wpList_nil ?_
      replace s1 := p47.k s1 rfl
      refine hK64 _ _ ?_
      clear hK64
      refine wp_ret ?_
      try dsimp only [Exit.then, Exit.inBlock]
      refine ret1 p47.s Try.results21 (res_tmp s2) ?_
      have hl65 : decide (b.ps.length = 8) = true := by exact decide_eq_true (by omega)
      have hl66 : decide (b.ls.length ≤ 8) = true := by exact decide_eq_true (by omega)
      exact ⟨by unfold boOk; simp only [hc6, hl65, hc9, hl66, hls, hc53, hc57, hc63, Bool.and_true, Bool.true_and, Bool.and_false, Bool.false_and, Bool.or_true, Bool.true_or, Bool.or_false, Bool.false_or, Bool.not_true, Bool.not_false, Bool.and_self], hB⟩
    replace s70 : a46.eval (.tmp 70) = .bool false := (s70).trans (congrArg (fun b => Value.bool (!b)) hc63)
    refine c_false s70 ?_
    refine wp_skip ?_
    refine hK51 _ _ ?_
    clear hK51
    refine wp_seq_k fun K67 hK67 => ?_
    refine wp_seq_k fun K68 hK68 => ?_
    refine wp_region_lit ?_
    refine q_v p46.s rfl rfl rfl (g_field (r := 5) rfl s1 Try.underlying32 rfl (fun w => Try.sizeOf27 w) rfl rfl ?_)
    intro a47 p47
    refine q_v p47.s rfl rfl rfl (g_load rfl p47.v Try.isAgg27 (box_cell h_q2 rfl) ?_)
    intro a48 p48
    refine q_v p48.s rfl rfl rfl (g_len (e := _) rfl Try.underlying27 p48.v ?_)
    intro a49 p49
    refine q_v p49.s rfl rfl rfl (g_gtr rfl p49.v rfl ?_)
    intro a50 p50
    refine wpList_nil ?_
    have kc46 := ((((Kps.nil a46).u p47).u p48).u p49).u p50
    replace s1 := kc46.k s1 rfl
    replace s2 := kc46.k s2 rfl
    replace s74 := p50.v
    clear kc46
    refine hK68 _ _ ?_
    clear hK68
    by_cases hc69 : 5000 < ((b.ds.length : Nat) : Int)
    · replace s74 : a50.eval (.tmp 74) = .bool true := (s74).trans (congrArg Value.bool (decide_eq_true hc69))
      refine c_true s74 ?_
      refine wp_seq_k fun K70 hK70 => ?_
      refine wp_region_lit ?_
      refine q_v p50.s rfl rfl rfl (g_assign rfl rfl ?_)
      intro a51 p51
      have s2 : a51.eval (.tmp 2) = .bool false := p51.v
      refine wpList_nil ?_
      replace s1 := p51.k s1 rfl
      refine hK70 _ _ ?_
      clear hK70
      refine wp_ret ?_
      try dsimp only [Exit.then, Exit.inBlock]
      refine ret1 p51.s Try.results21 (res_tmp s2) ?_
      have hl71 : decide (b.ps.length = 8) = true := by exact decide_eq_true (by omega)
      have hl72 : decide (b.ls.length ≤ 8) = true := by exact decide_eq_true (by omega)
      have hl73 : decide (b.ds.length ≤ 5000) = false := by exact decide_eq_false (by omega)
      exact ⟨by unfold boOk; simp only [hc6, hl71, hc9, hl72, hls, hc53, hc57, hc63, hl73, Bool.and_true, Bool.true_and, Bool.and_false, Bool.false_and, Bool.or_true, Bool.true_or, Bool.or_false, Bool.false_or, Bool.not_true, Bool.not_false, Bool.and_self], hB⟩
    replace s74 : a50.eval (.tmp 74) = .bool false := (s74).trans (congrArg Value.bool (decide_eq_false hc69))
    refine c_false s74 ?_
    refine wp_skip ?_
    refine hK67 _ _ ?_
    clear hK67
    refine wp_seq_k fun K74 hK74 => ?_
    refine wp_seq_k fun K75 hK75 => ?_
    refine wp_region_lit ?_
    refine q_v p50.s rfl rfl rfl (g_field (r := 5) rfl s1 Try.underlying32 rfl (fun w => Try.sizeOf27 w) rfl rfl ?_)
    intro a51 p51
    refine q_v p51.s rfl rfl rfl (g_load rfl p51.v Try.isAgg27 (box_cell h_q2 rfl) ?_)
    intro a52 p52
    refine q_v p52.s rfl rfl rfl (g_len (e := _) rfl Try.underlying27 p52.v ?_)
    intro a53 p53
    refine q_v p53.s rfl rfl rfl (g_move rfl rfl ?_)
    intro a54 p54
    have s78 : a54.eval (.tmp 78) = .int .i64 0 := p54.v
    refine wpList_nil ?_
    have kc50 := ((((Kps.nil a50).u p51).u p52).u p53).u p54
    replace s1 := kc50.k s1 rfl
    replace s2 := kc50.k s2 rfl
    replace s76 := p54.k (p53.k p52.v rfl) rfl
    replace s77 := p54.k p53.v rfl
    clear kc50
    refine hK75 _ _ ?_
    clear hK75
    refine wp_block ?_
    refine wp_loop (fun a wr => ∃ (k : Nat), (St 129 a) ∧ (a.eval (.tmp 1) = .pointer (some ⟨q2, 0, none⟩)) ∧ (a.eval (.tmp 2) = .bool false) ∧ (a.eval (.tmp 76) = .slice dA b.ds.length dc) ∧ (a.eval (.tmp 77) = .int .i64 ((b.ds.length : Nat) : Int)) ∧ (a.eval (.tmp 78) = .int .i64 ((k : Nat) : Int)) ∧ (Below w.heap.size w wr) ∧ (wr.heap[q2]? = some (.cells #[.int .i64 b.clk, .slice pA b.ps.length pc, .bool b.safe, .slice lA b.ls.length lc, .slice oA b.os.length oc, .slice dA b.ds.length dc, .int .i64 b.room, .slice rA b.rs.length rc, .slice xA b.xs.length xc, .int .i64 b.made, .int .i64 b.taken, .slice qA b.qs.length qc] 32 (0, 0))) ∧ (k ≤ b.ds.length) ∧ ((b.ds.take k).all (dnOk b.taken) = true)) (fun a _ => b.ds.length - (intOf (a.eval (.tmp 78))).toNat) (⟨0, p54.s, s1, s2, s76, s77, s78, hB, h_q2, Nat.zero_le _, rfl⟩) ?_
    intro a55 w77 hIv
    obtain ⟨k, hs, s1, s2, s76, s77, s78, hB, h_q2, hk, hst⟩ := hIv
    have mu78 := s78
    refine wp_seq_k fun K79 hK79 => ?_
    refine wp_region_lit ?_
    refine q_v hs rfl rfl rfl (g_lss rfl s78 s77 ?_)
    intro a56 p56
    refine wpList_nil ?_
    replace s1 := p56.k s1 rfl
    replace s2 := p56.k s2 rfl
    replace s76 := p56.k s76 rfl
    replace s77 := p56.k s77 rfl
    replace s78 := p56.k s78 rfl
    replace s79 := p56.v
    refine hK79 _ _ ?_
    clear hK79
    refine wp_seq_k fun K80 hK80 => ?_
    by_cases hc81 : ((k : Nat) : Int) < ((b.ds.length : Nat) : Int)
    · replace s79 : a56.eval (.tmp 79) = .bool true := (s79).trans (congrArg Value.bool (decide_eq_true hc81))
      refine c_true s79 ?_
      refine wp_skip ?_
      refine hK80 _ _ ?_
      clear hK80
      refine wp_seq_k fun K82 hK82 => ?_
      refine wp_block ?_
      refine wp_seq_k fun K83 hK83 => ?_
      have hlt : k < b.ds.length := by omega
      refine wp_region_lit ?_
      obtain ⟨b84, o85, hA86, hl_hc87, hc87⟩ := Rd.get cDone_len (hr_d.below hB) rfl (i := k) (by omega)
      refine q_v p56.s rfl rfl rfl (g_index (r := o85 + k * 3) (k := k) rfl (s76.trans (slice_at hA86)) s78 Try.underlying27 (fun w => Try.sizeOf51 w) (by omega) rfl ?_)
      intro a57 p57
      refine q_v p57.s rfl rfl rfl (g_loadA (l := cDone b.ds[k]) rfl p57.v Try.isAgg51 Try.sizeOf51 rfl (fun j u hu => by rw [Nat.add_assoc]; exact hc87 j u (by have := (List.getElem?_eq_some_iff.1 hu).1; exact this) hu) ?_)
      intro a58 p58
      refine q_v p58.s rfl rfl rfl ?_
      refine g_alloc rfl Try.zeroValue51 rfl ?_
      intro q88 w89 N_q88
      have n_q2_q88 := N_q88.ne ⟨lt_of_block h_q2⟩
      have n_q88_q2 := n_q2_q88.symm
      have g_q88 : GeB w.heap.size q88 := ⟨Nat.le_trans hB.size N_q88.lo⟩
      replace h_q2 := keep_below h_q2 N_q88.below
      replace hB := below_new hB hB.size N_q88
      have h_q88 := N_q88.here
      clear N_q88
      intro a59 p59
      refine q_eff rfl rfl ?_
      refine g_storeB rfl p59.v (p59.k p58.v rfl) Try.sizeOf51 rfl rfl h_q88 rfl ?_
      intro w90 W_w90
      replace h_q2 := keep_wrote h_q2 W_w90 n_q88_q2
      replace h_q88 := W_w90.here
      replace hB := below_wrote hB hB.size W_w90 g_q88.le
      clear W_w90
      refine wpList_nil ?_
      have kc56 := (((Kps.nil a56).u p57).u p58).u p59
      replace s1 := kc56.k s1 rfl
      replace s2 := kc56.k s2 rfl
      replace s76 := kc56.k s76 rfl
      replace s77 := kc56.k s77 rfl
      replace s78 := kc56.k s78 rfl
      replace s79 := kc56.k s79 rfl
      replace s6 := p59.v
      clear kc56
      refine hK83 _ _ ?_
      clear hK83
      refine wp_seq_k fun K91 hK91 => ?_
      refine wp_region_lit ?_
      refine q_v p59.s rfl rfl rfl (g_field (r := 0) rfl s6 Try.underlying51 rfl (fun w => Try.sizeOf3 w) rfl rfl ?_)
      intro a60 p60
      refine q_v p60.s rfl rfl rfl (g_load rfl p60.v Try.isAgg3 (box_cell h_q88 rfl) ?_)
      intro a61 p61
      refine q_v p61.s rfl rfl rfl (g_field (r := 10) rfl (p61.k (p60.k s1 rfl) rfl) Try.underlying32 rfl (fun w => Try.sizeOf3 w) rfl rfl ?_)
      intro a62 p62
      refine q_v p62.s rfl rfl rfl (g_load rfl p62.v Try.isAgg3 (box_cell h_q2 rfl) ?_)
      intro a63 p63
      refine q_v p63.s rfl rfl rfl (g_sub (r := b.taken - 1) rfl p63.v rfl (by omega) (by omega) ?_)
      intro a64 p64
      refine q_v p64.s rfl rfl rfl ?_
      refine g_call rfl rfl Try.call43 (arr3 (p64.k (p63.k (p62.k p61.v rfl) rfl) rfl) rfl p64.v) ?_
      refine (between_any _ _ _ _).mono ?_
      rintro e w' ⟨rfl, rfl⟩
      refine ⟨_, rfl, ?_⟩
      intro a65 p65
      refine q_v p65.s rfl rfl rfl (g_not rfl p65.v ?_)
      intro a66 p66
      refine q_v p66.s rfl rfl rfl (g_move rfl p66.v ?_)
      intro a67 p67
      cases hc92 : inB (b.ds[k].f0) 0 (b.taken - 1)
      · have s87 : a65.eval (.tmp 87) = .bool false := (p65.v).trans (congrArg Value.bool hc92)
        have s88 : a66.eval (.tmp 88) = .bool true := (p66.v).trans (congrArg (fun b => Value.bool (!b)) hc92)
        have s89 : a67.eval (.tmp 89) = .bool true := (p67.v).trans (congrArg (fun b => Value.bool (!b)) hc92)
        refine q_s p67.s rfl rfl s89 rfl rfl ?_
        intro a68 p68
        refine q_s p68.s rfl rfl (p68.k s89 rfl) rfl rfl ?_
        intro a69 p69
        refine q_s p69.s rfl rfl (p69.k (p68.k s89 rfl) rfl) rfl rfl ?_
        intro a70 p70
        refine q_s p70.s rfl rfl (p70.k (p69.k (p68.k s89 rfl) rfl) rfl) rfl rfl ?_
        intro a71 p71
        refine q_v p71.s rfl rfl rfl (g_pick_t rfl (p71.k (p70.k (p69.k (p68.k s89 rfl) rfl) rfl) rfl) rfl ?_)
        intro a72 p72
        have s94 : a72.eval (.tmp 94) = .bool true := p72.v
        refine q_v p72.s rfl rfl rfl (g_move rfl s94 ?_)
        intro a73 p73
        refine q_s p73.s rfl rfl p73.v rfl rfl ?_
        intro a74 p74
        refine q_s p74.s rfl rfl (p74.k p73.v rfl) rfl rfl ?_
        intro a75 p75
        refine q_s p75.s rfl rfl (p75.k (p74.k p73.v rfl) rfl) rfl rfl ?_
        intro a76 p76
        refine q_s p76.s rfl rfl (p76.k (p75.k (p74.k p73.v rfl) rfl) rfl) rfl rfl ?_
        intro a77 p77
        refine q_v p77.s rfl rfl rfl (g_pick_t rfl (p77.k (p76.k (p75.k (p74.k p73.v rfl) rfl) rfl) rfl) rfl ?_)
        intro a78 p78
        have s100 : a78.eval (.tmp 100) = .bool true := p78.v
        refine wpList_nil ?_
        have kc59 := (((((((((((((((((((Kps.nil a59).u p60).u p61).u p62).u p63).u p64).u p65).u p66).u p67).u p68).u p69).u p70).u p71).u p72).u p73).u p74).u p75).u p76).u p77).u p78
        replace s1 := kc59.k s1 rfl
        replace s2 := kc59.k s2 rfl
        replace s76 := kc59.k s76 rfl
        replace s77 := kc59.k s77 rfl
        replace s78 := kc59.k s78 rfl
        replace s79 := kc59.k s79 rfl
        replace s6 := kc59.k s6 rfl
        clear kc59
        refine hK91 _ _ ?_
        clear hK91
        refine c_true s100 ?_
        refine wp_seq_k fun K93 hK93 => ?_
        refine wp_region_lit ?_
        refine q_v p78.s rfl rfl rfl (g_assign rfl rfl ?_)
        intro a79 p79
        have s2 : a79.eval (.tmp 2) = .bool false := p79.v
        refine wpList_nil ?_
        replace s1 := p79.k s1 rfl
        replace s76 := p79.k s76 rfl
        replace s77 := p79.k s77 rfl
        replace s78 := p79.k s78 rfl
        replace s79 := p79.k s79 rfl
        replace s6 := p79.k s6 rfl
        replace s100 := p79.k s100 rfl
        refine hK93 _ _ ?_
        clear hK93
        refine wp_ret ?_
        try dsimp only [Exit.then, Exit.inBlock]
        refine ret1 p79.s Try.results21 (res_tmp s2) ?_
        have hl94 : decide (b.ps.length = 8) = true := by exact decide_eq_true (by omega)
        have hl95 : decide (b.ls.length ≤ 8) = true := by exact decide_eq_true (by omega)
        have hl96 : decide (b.ds.length ≤ 5000) = true := by exact decide_eq_true (by omega)
        have hat : (dnOk b.taken) b.ds[k] = false := by unfold dnOk; simp only [hc92, Bool.and_true, Bool.true_and, Bool.and_false, Bool.false_and, Bool.or_true, Bool.true_or, Bool.or_false, Bool.false_or, Bool.not_true, Bool.not_false, Bool.and_self]
        have hx97 : b.ds.all (dnOk b.taken) = false := all_fail (P := dnOk b.taken) hlt hat
        exact ⟨by unfold boOk; simp only [hc6, hl94, hc9, hl95, hls, hc53, hc57, hc63, hl96, hx97, Bool.and_true, Bool.true_and, Bool.and_false, Bool.false_and, Bool.or_true, Bool.true_or, Bool.or_false, Bool.false_or, Bool.not_true, Bool.not_false, Bool.and_self], hB⟩
      have s87 : a65.eval (.tmp 87) = .bool true := (p65.v).trans (congrArg Value.bool hc92)
      have s88 : a66.eval (.tmp 88) = .bool false := (p66.v).trans (congrArg (fun b => Value.bool (!b)) hc92)
      have s89 : a67.eval (.tmp 89) = .bool false := (p67.v).trans (congrArg (fun b => Value.bool (!b)) hc92)
      refine q_t p67.s rfl rfl s89 rfl rfl (g_field (r := 1) rfl (p67.k (p66.k (p65.k (p64.k (p63.k (p62.k (p61.k (p60.k s6 rfl) rfl) rfl) rfl) rfl) rfl) rfl) rfl) Try.underlying51 rfl (fun w => Try.sizeOf3 w) rfl rfl ?_)
      intro a68 p68
      refine q_t p68.s rfl rfl (p68.k s89 rfl) rfl rfl (g_load rfl p68.v Try.isAgg3 (box_cell h_q88 rfl) ?_)
      intro a69 p69
      refine q_t p69.s rfl rfl (p69.k (p68.k s89 rfl) rfl) rfl rfl ?_
      refine g_call rfl rfl Try.call43 (arr3 p69.v rfl rfl) ?_
      refine (between_any _ _ _ _).mono ?_
      rintro e w' ⟨rfl, rfl⟩
      refine ⟨_, rfl, ?_⟩
      intro a70 p70
      refine q_t p70.s rfl rfl (p70.k (p69.k (p68.k s89 rfl) rfl) rfl) rfl rfl (g_not rfl p70.v ?_)
      intro a71 p71
      refine q_v p71.s rfl rfl rfl (g_pick_f rfl (p71.k (p70.k (p69.k (p68.k s89 rfl) rfl) rfl) rfl) p71.v ?_)
      intro a72 p72
      have s94 : a72.eval (.tmp 94) = .bool (!(inB (b.ds[k].f1) 0 1000000)) := p72.v
      refine q_v p72.s rfl rfl rfl (g_move rfl s94 ?_)
      intro a73 p73
      cases hc98 : inB (b.ds[k].f1) 0 1000000
      · have s92 : a70.eval (.tmp 92) = .bool false := (p70.v).trans (congrArg Value.bool hc98)
        have s93 : a71.eval (.tmp 93) = .bool true := (p71.v).trans (congrArg (fun b => Value.bool (!b)) hc98)
        replace s94 : a72.eval (.tmp 94) = .bool true := (s94).trans (congrArg (fun b => Value.bool (!b)) hc98)
        have s95 : a73.eval (.tmp 95) = .bool true := (p73.v).trans (congrArg (fun b => Value.bool (!b)) hc98)
        refine q_s p73.s rfl rfl s95 rfl rfl ?_
        intro a74 p74
        refine q_s p74.s rfl rfl (p74.k s95 rfl) rfl rfl ?_
        intro a75 p75
        refine q_s p75.s rfl rfl (p75.k (p74.k s95 rfl) rfl) rfl rfl ?_
        intro a76 p76
        refine q_s p76.s rfl rfl (p76.k (p75.k (p74.k s95 rfl) rfl) rfl) rfl rfl ?_
        intro a77 p77
        refine q_v p77.s rfl rfl rfl (g_pick_t rfl (p77.k (p76.k (p75.k (p74.k s95 rfl) rfl) rfl) rfl) rfl ?_)
        intro a78 p78
        have s100 : a78.eval (.tmp 100) = .bool true := p78.v
        refine wpList_nil ?_
        have kc59 := (((((((((((((((((((Kps.nil a59).u p60).u p61).u p62).u p63).u p64).u p65).u p66).u p67).u p68).u p69).u p70).u p71).u p72).u p73).u p74).u p75).u p76).u p77).u p78
        replace s1 := kc59.k s1 rfl
        replace s2 := kc59.k s2 rfl
        replace s76 := kc59.k s76 rfl
        replace s77 := kc59.k s77 rfl
        replace s78 := kc59.k s78 rfl
        replace s79 := kc59.k s79 rfl
        replace s6 := kc59.k s6 rfl
        clear kc59
        refine hK91 _ _ ?_
        clear hK91
        refine c_true s100 ?_
        refine wp_seq_k fun K99 hK99 => ?_
        refine wp_region_lit ?_
        refine q_v p78.s rfl rfl rfl (g_assign rfl rfl ?_)
        intro a79 p79
        have s2 : a79.eval (.tmp 2) = .bool false := p79.v
        refine wpList_nil ?_
        replace s1 := p79.k s1 rfl
        replace s76 := p79.k s76 rfl
        replace s77 := p79.k s77 rfl
        replace s78 := p79.k s78 rfl
        replace s79 := p79.k s79 rfl
        replace s6 := p79.k s6 rfl
        replace s100 := p79.k s100 rfl
        refine hK99 _ _ ?_
        clear hK99
        refine wp_ret ?_
        try dsimp only [Exit.then, Exit.inBlock]
        refine ret1 p79.s Try.results21 (res_tmp s2) ?_
        have hl100 : decide (b.ps.length = 8) = true := by exact decide_eq_true (by omega)
        have hl101 : decide (b.ls.length ≤ 8) = true := by exact decide_eq_true (by omega)
        have hl102 : decide (b.ds.length ≤ 5000) = true := by exact decide_eq_true (by omega)
        have hat : (dnOk b.taken) b.ds[k] = false := by unfold dnOk; simp only [hc92, hc98, Bool.and_true, Bool.true_and, Bool.and_false, Bool.false_and, Bool.or_true, Bool.true_or, Bool.or_false, Bool.false_or, Bool.not_true, Bool.not_false, Bool.and_self]
        have hx103 : b.ds.all (dnOk b.taken) = false := all_fail (P := dnOk b.taken) hlt hat
        exact ⟨by unfold boOk; simp only [hc6, hl100, hc9, hl101, hls, hc53, hc57, hc63, hl102, hx103, Bool.and_true, Bool.true_and, Bool.and_false, Bool.false_and, Bool.or_true, Bool.true_or, Bool.or_false, Bool.false_or, Bool.not_true, Bool.not_false, Bool.and_self], hB⟩
      have s92 : a70.eval (.tmp 92) = .bool true := (p70.v).trans (congrArg Value.bool hc98)
      have s93 : a71.eval (.tmp 93) = .bool false := (p71.v).trans (congrArg (fun b => Value.bool (!b)) hc98)
      replace s94 : a72.eval (.tmp 94) = .bool false := (s94).trans (congrArg (fun b => Value.bool (!b)) hc98)
      have s95 : a73.eval (.tmp 95) = .bool false := (p73.v).trans (congrArg (fun b => Value.bool (!b)) hc98)
      refine q_t p73.s rfl rfl s95 rfl rfl (g_field (r := 2) rfl (p73.k (p72.k (p71.k (p70.k (p69.k (p68.k (p67.k (p66.k (p65.k (p64.k (p63.k (p62.k (p61.k (p60.k s6 rfl) rfl) rfl) rfl) rfl) rfl) rfl) rfl) rfl) rfl) rfl) rfl) rfl) rfl) Try.underlying51 rfl (fun w => Try.sizeOf3 w) rfl rfl ?_)
      intro a74 p74
      refine q_t p74.s rfl rfl (p74.k s95 rfl) rfl rfl (g_load rfl p74.v Try.isAgg3 (box_cell h_q88 rfl) ?_)
      intro a75 p75
      refine q_t p75.s rfl rfl (p75.k (p74.k s95 rfl) rfl) rfl rfl ?_
      refine g_call rfl rfl Try.call43 (arr3 p75.v rfl rfl) ?_
      refine (between_any _ _ _ _).mono ?_
      rintro e w' ⟨rfl, rfl⟩
      refine ⟨_, rfl, ?_⟩
      intro a76 p76
      refine q_t p76.s rfl rfl (p76.k (p75.k (p74.k s95 rfl) rfl) rfl) rfl rfl (g_not rfl p76.v ?_)
      intro a77 p77
      refine q_v p77.s rfl rfl rfl (g_pick_f rfl (p77.k (p76.k (p75.k (p74.k s95 rfl) rfl) rfl) rfl) p77.v ?_)
      intro a78 p78
      have s100 : a78.eval (.tmp 100) = .bool (!(inB (b.ds[k].f2) 0 1)) := p78.v
      refine wpList_nil ?_
      have kc59 := (((((((((((((((((((Kps.nil a59).u p60).u p61).u p62).u p63).u p64).u p65).u p66).u p67).u p68).u p69).u p70).u p71).u p72).u p73).u p74).u p75).u p76).u p77).u p78
      replace s1 := kc59.k s1 rfl
      replace s2 := kc59.k s2 rfl
      replace s76 := kc59.k s76 rfl
      replace s77 := kc59.k s77 rfl
      replace s78 := kc59.k s78 rfl
      replace s79 := kc59.k s79 rfl
      replace s6 := kc59.k s6 rfl
      clear kc59
      refine hK91 _ _ ?_
      clear hK91
      cases hc104 : inB (b.ds[k].f2) 0 1
      · replace s100 : a78.eval (.tmp 100) = .bool true := (s100).trans (congrArg (fun b => Value.bool (!b)) hc104)
        refine c_true s100 ?_
        refine wp_seq_k fun K105 hK105 => ?_
        refine wp_region_lit ?_
        refine q_v p78.s rfl rfl rfl (g_assign rfl rfl ?_)
        intro a79 p79
        have s2 : a79.eval (.tmp 2) = .bool false := p79.v
        refine wpList_nil ?_
        replace s1 := p79.k s1 rfl
        replace s76 := p79.k s76 rfl
        replace s77 := p79.k s77 rfl
        replace s78 := p79.k s78 rfl
        replace s79 := p79.k s79 rfl
        replace s6 := p79.k s6 rfl
        replace s100 := p79.k s100 rfl
        refine hK105 _ _ ?_
        clear hK105
        refine wp_ret ?_
        try dsimp only [Exit.then, Exit.inBlock]
        refine ret1 p79.s Try.results21 (res_tmp s2) ?_
        have hl106 : decide (b.ps.length = 8) = true := by exact decide_eq_true (by omega)
        have hl107 : decide (b.ls.length ≤ 8) = true := by exact decide_eq_true (by omega)
        have hl108 : decide (b.ds.length ≤ 5000) = true := by exact decide_eq_true (by omega)
        have hat : (dnOk b.taken) b.ds[k] = false := by unfold dnOk; simp only [hc92, hc98, hc104, Bool.and_true, Bool.true_and, Bool.and_false, Bool.false_and, Bool.or_true, Bool.true_or, Bool.or_false, Bool.false_or, Bool.not_true, Bool.not_false, Bool.and_self]
        have hx109 : b.ds.all (dnOk b.taken) = false := all_fail (P := dnOk b.taken) hlt hat
        exact ⟨by unfold boOk; simp only [hc6, hl106, hc9, hl107, hls, hc53, hc57, hc63, hl108, hx109, Bool.and_true, Bool.true_and, Bool.and_false, Bool.false_and, Bool.or_true, Bool.true_or, Bool.or_false, Bool.false_or, Bool.not_true, Bool.not_false, Bool.and_self], hB⟩
      replace s100 : a78.eval (.tmp 100) = .bool false := (s100).trans (congrArg (fun b => Value.bool (!b)) hc104)
      refine c_false s100 ?_
      refine wp_skip ?_
      refine hK82 _ _ ?_
      clear hK82
      refine wp_region_lit ?_
      refine q_v p78.s rfl rfl rfl (g_add (r := ((k + 1 : Nat) : Int)) rfl s78 rfl (by omega) (by omega) ?_)
      intro a79 p79
      refine q_v p79.s rfl rfl rfl (g_move rfl p79.v ?_)
      intro a80 p80
      refine wpList_nil ?_
      replace s1 := p80.k (p79.k s1 rfl) rfl
      replace s2 := p80.k (p79.k s2 rfl) rfl
      replace s76 := p80.k (p79.k s76 rfl) rfl
      replace s77 := p80.k (p79.k s77 rfl) rfl
      replace s78 := p80.v
      replace s79 := p80.k (p79.k s79 rfl) rfl
      replace s6 := p80.k (p79.k s6 rfl) rfl
      replace s100 := p80.k (p79.k s100 rfl) rfl
      have hat : (dnOk b.taken) b.ds[k] = true := by unfold dnOk; simp only [hc6, decide_eq_true hc8, hc9, decide_eq_false hc14, decide_eq_false hc25, hls, hc53, hc57, hc63, decide_eq_false hc69, decide_eq_true hc81, hc92, hc98, hc104, Bool.and_true, Bool.true_and, Bool.and_false, Bool.false_and, Bool.or_true, Bool.true_or, Bool.or_false, Bool.false_or, Bool.not_true, Bool.not_false, Bool.and_self]
      refine show _ ∧ _ from ⟨⟨k + 1, p80.s, s1, s2, s76, s77, s78, hB, h_q2, (by omega), (all_step hlt hst hat)⟩, ?_⟩
      show b.ds.length - (intOf (a80.eval (.tmp 78))).toNat < b.ds.length - (intOf (a55.eval (.tmp 78))).toNat
      rw [s78, mu78]
      simp only [intOf]
      omega
    replace s79 : a56.eval (.tmp 79) = .bool false := (s79).trans (congrArg Value.bool (decide_eq_false hc81))
    refine c_false s79 ?_
    refine wp_exit ?_
    refine hK74 _ _ ?_
    clear hK74
    refine wp_seq_k fun K110 hK110 => ?_
    refine wp_seq_k fun K111 hK111 => ?_
    have hds : b.ds.all (dnOk b.taken) = true := all_done (by omega) hst
    refine wp_region_lit ?_
    refine q_v p56.s rfl rfl rfl (g_field (r := 6) rfl s1 Try.underlying32 rfl (fun w => Try.sizeOf30 w) rfl rfl ?_)
    intro a57 p57
    refine q_v p57.s rfl rfl rfl (g_loadA (l := [.int .i64 b.room, .slice rA b.rs.length rc, .slice xA b.xs.length xc]) rfl p57.v Try.isAgg30 Try.sizeOf30 rfl (box_part h_q2 rfl) ?_)
    intro a58 p58
    refine q_v p58.s rfl rfl rfl ?_
    refine g_call rfl rfl Try.call53 (arr1 p58.v) ?_
    refine (recorderOk_any _ _ _ _ _ _ _ b.rs b.xs _ rfl (by omega) hW.tx (hr_r.below hB) rfl (by omega) (hr_x.below hB)).mono ?_
    rintro e w113 ⟨rfl, hb112⟩
    refine ⟨_, rfl, ?_⟩
    replace h_q2 := keep_below h_q2 hb112
    replace hB := hB.trans (hb112.mono hB.size)
    clear hb112
    intro a59 p59
    refine q_v p59.s rfl rfl rfl (g_not rfl p59.v ?_)
    intro a60 p60
    refine wpList_nil ?_
    have kc56 := ((((Kps.nil a56).u p57).u p58).u p59).u p60
    replace s1 := kc56.k s1 rfl
    replace s2 := kc56.k s2 rfl
    replace s105 := p60.v
    clear kc56
    refine hK111 _ _ ?_
    clear hK111
    cases hc114 : rcOk b.room b.rs b.xs
    · replace s105 : a60.eval (.tmp 105) = .bool true := (s105).trans (congrArg (fun b => Value.bool (!b)) hc114)
      refine c_true s105 ?_
      refine wp_seq_k fun K115 hK115 => ?_
      refine wp_region_lit ?_
      refine q_v p60.s rfl rfl rfl (g_assign rfl rfl ?_)
      intro a61 p61
      have s2 : a61.eval (.tmp 2) = .bool false := p61.v
      refine wpList_nil ?_
      replace s1 := p61.k s1 rfl
      refine hK115 _ _ ?_
      clear hK115
      refine wp_ret ?_
      try dsimp only [Exit.then, Exit.inBlock]
      refine ret1 p61.s Try.results21 (res_tmp s2) ?_
      have hl116 : decide (b.ps.length = 8) = true := by exact decide_eq_true (by omega)
      have hl117 : decide (b.ls.length ≤ 8) = true := by exact decide_eq_true (by omega)
      have hl118 : decide (b.ds.length ≤ 5000) = true := by exact decide_eq_true (by omega)
      exact ⟨by unfold boOk; simp only [hc6, hl116, hc9, hl117, hls, hc53, hc57, hc63, hl118, hds, hc114, Bool.and_true, Bool.true_and, Bool.and_false, Bool.false_and, Bool.or_true, Bool.true_or, Bool.or_false, Bool.false_or, Bool.not_true, Bool.not_false, Bool.and_self], hB⟩
    replace s105 : a60.eval (.tmp 105) = .bool false := (s105).trans (congrArg (fun b => Value.bool (!b)) hc114)
    refine c_false s105 ?_
    refine wp_skip ?_
    refine hK110 _ _ ?_
    clear hK110
    refine wp_seq_k fun K119 hK119 => ?_
    refine wp_seq_k fun K120 hK120 => ?_
    refine wp_region_lit ?_
    refine q_v p60.s rfl rfl rfl (g_field (r := 6) rfl s1 Try.underlying32 rfl (fun w => Try.sizeOf30 w) rfl rfl ?_)
    intro a61 p61
    refine q_v p61.s rfl rfl rfl (g_field (r := 7) rfl p61.v Try.underlying30 rfl (fun w => Try.sizeOf28 w) rfl rfl ?_)
    intro a62 p62
    refine q_v p62.s rfl rfl rfl (g_load rfl p62.v Try.isAgg28 (box_cell h_q2 rfl) ?_)
    intro a63 p63
    refine q_v p63.s rfl rfl rfl (g_len (e := _) rfl Try.underlying28 p63.v ?_)
    intro a64 p64
    refine q_v p64.s rfl rfl rfl (g_move rfl rfl ?_)
    intro a65 p65
    have s110 : a65.eval (.tmp 110) = .int .i64 0 := p65.v
    refine wpList_nil ?_
    have kc60 := (((((Kps.nil a60).u p61).u p62).u p63).u p64).u p65
    replace s1 := kc60.k s1 rfl
    replace s2 := kc60.k s2 rfl
    replace s108 := p65.k (p64.k p63.v rfl) rfl
    replace s109 := p65.k p64.v rfl
    clear kc60
    refine hK120 _ _ ?_
    clear hK120
    refine wp_block ?_
    refine wp_loop (fun a wr => ∃ (k : Nat), (St 129 a) ∧ (a.eval (.tmp 1) = .pointer (some ⟨q2, 0, none⟩)) ∧ (a.eval (.tmp 2) = .bool false) ∧ (a.eval (.tmp 108) = .slice rA b.rs.length rc) ∧ (a.eval (.tmp 109) = .int .i64 ((b.rs.length : Nat) : Int)) ∧ (a.eval (.tmp 110) = .int .i64 ((k : Nat) : Int)) ∧ (Below w.heap.size w wr) ∧ (wr.heap[q2]? = some (.cells #[.int .i64 b.clk, .slice pA b.ps.length pc, .bool b.safe, .slice lA b.ls.length lc, .slice oA b.os.length oc, .slice dA b.ds.length dc, .int .i64 b.room, .slice rA b.rs.length rc, .slice xA b.xs.length xc, .int .i64 b.made, .int .i64 b.taken, .slice qA b.qs.length qc] 32 (0, 0))) ∧ (k ≤ b.rs.length) ∧ ((b.rs.take k).all (fun r => decide (r.f0 < b.made)) = true)) (fun a _ => b.rs.length - (intOf (a.eval (.tmp 110))).toNat) (⟨0, p65.s, s1, s2, s108, s109, s110, hB, h_q2, Nat.zero_le _, rfl⟩) ?_
    intro a66 w122 hIv
    obtain ⟨k, hs, s1, s2, s108, s109, s110, hB, h_q2, hk, hst⟩ := hIv
    have mu123 := s110
    refine wp_seq_k fun K124 hK124 => ?_
    refine wp_region_lit ?_
    refine q_v hs rfl rfl rfl (g_lss rfl s110 s109 ?_)
    intro a67 p67
    refine wpList_nil ?_
    replace s1 := p67.k s1 rfl
    replace s2 := p67.k s2 rfl
    replace s108 := p67.k s108 rfl
    replace s109 := p67.k s109 rfl
    replace s110 := p67.k s110 rfl
    replace s111 := p67.v
    refine hK124 _ _ ?_
    clear hK124
    refine wp_seq_k fun K125 hK125 => ?_
    by_cases hc126 : ((k : Nat) : Int) < ((b.rs.length : Nat) : Int)
    · replace s111 : a67.eval (.tmp 111) = .bool true := (s111).trans (congrArg Value.bool (decide_eq_true hc126))
      refine c_true s111 ?_
      refine wp_skip ?_
      refine hK125 _ _ ?_
      clear hK125
      refine wp_seq_k fun K127 hK127 => ?_
      refine wp_block ?_
      refine wp_seq_k fun K128 hK128 => ?_
      have hlt : k < b.rs.length := by omega
      refine wp_region_lit ?_
      obtain ⟨b129, o130, hA131, hl_hc132, hc132⟩ := Rd.get cRecord_len (hr_r.below hB) rfl (i := k) (by omega)
      refine q_v p67.s rfl rfl rfl (g_index (r := o130 + k * 4) (k := k) rfl (s108.trans (slice_at hA131)) s110 Try.underlying28 (fun w => Try.sizeOf47 w) (by omega) rfl ?_)
      intro a68 p68
      refine q_v p68.s rfl rfl rfl (g_loadA (l := cRecord b.rs[k]) rfl p68.v Try.isAgg47 Try.sizeOf47 rfl (fun j u hu => by rw [Nat.add_assoc]; exact hc132 j u (by have := (List.getElem?_eq_some_iff.1 hu).1; exact this) hu) ?_)
      intro a69 p69
      refine q_v p69.s rfl rfl rfl ?_
      refine g_alloc rfl Try.zeroValue47 rfl ?_
      intro q133 w134 N_q133
      have n_q2_q133 := N_q133.ne ⟨lt_of_block h_q2⟩
      have n_q133_q2 := n_q2_q133.symm
      have g_q133 : GeB w.heap.size q133 := ⟨Nat.le_trans hB.size N_q133.lo⟩
      replace h_q2 := keep_below h_q2 N_q133.below
      replace hB := below_new hB hB.size N_q133
      have h_q133 := N_q133.here
      clear N_q133
      intro a70 p70
      refine q_eff rfl rfl ?_
      refine g_storeB rfl p70.v (p70.k p69.v rfl) Try.sizeOf47 rfl rfl h_q133 rfl ?_
      intro w135 W_w135
      replace h_q2 := keep_wrote h_q2 W_w135 n_q133_q2
      replace h_q133 := W_w135.here
      replace hB := below_wrote hB hB.size W_w135 g_q133.le
      clear W_w135
      refine wpList_nil ?_
      have kc67 := (((Kps.nil a67).u p68).u p69).u p70
      replace s1 := kc67.k s1 rfl
      replace s2 := kc67.k s2 rfl
      replace s108 := kc67.k s108 rfl
      replace s109 := kc67.k s109 rfl
      replace s110 := kc67.k s110 rfl
      replace s111 := kc67.k s111 rfl
      replace s8 := p70.v
      clear kc67
      refine hK128 _ _ ?_
      clear hK128
      refine wp_seq_k fun K136 hK136 => ?_
      refine wp_region_lit ?_
      refine q_v p70.s rfl rfl rfl (g_field (r := 0) rfl s8 Try.underlying47 rfl (fun w => Try.sizeOf3 w) rfl rfl ?_)
      intro a71 p71
      refine q_v p71.s rfl rfl rfl (g_load rfl p71.v Try.isAgg3 (box_cell h_q133 rfl) ?_)
      intro a72 p72
      refine q_v p72.s rfl rfl rfl (g_field (r := 9) rfl (p72.k (p71.k s1 rfl) rfl) Try.underlying32 rfl (fun w => Try.sizeOf3 w) rfl rfl ?_)
      intro a73 p73
      refine q_v p73.s rfl rfl rfl (g_load rfl p73.v Try.isAgg3 (box_cell h_q2 rfl) ?_)
      intro a74 p74
      refine q_v p74.s rfl rfl rfl (g_geq rfl (p74.k (p73.k p72.v rfl) rfl) p74.v ?_)
      intro a75 p75
      refine wpList_nil ?_
      have kc70 := (((((Kps.nil a70).u p71).u p72).u p73).u p74).u p75
      replace s1 := kc70.k s1 rfl
      replace s2 := kc70.k s2 rfl
      replace s108 := kc70.k s108 rfl
      replace s109 := kc70.k s109 rfl
      replace s110 := kc70.k s110 rfl
      replace s111 := kc70.k s111 rfl
      replace s8 := kc70.k s8 rfl
      replace s118 := p75.v
      clear kc70
      refine hK136 _ _ ?_
      clear hK136
      by_cases hc137 : b.made ≤ b.rs[k].f0
      · replace s118 : a75.eval (.tmp 118) = .bool true := (s118).trans (congrArg Value.bool (decide_eq_true hc137))
        refine c_true s118 ?_
        refine wp_seq_k fun K138 hK138 => ?_
        refine wp_region_lit ?_
        refine q_v p75.s rfl rfl rfl (g_assign rfl rfl ?_)
        intro a76 p76
        have s2 : a76.eval (.tmp 2) = .bool false := p76.v
        refine wpList_nil ?_
        replace s1 := p76.k s1 rfl
        replace s108 := p76.k s108 rfl
        replace s109 := p76.k s109 rfl
        replace s110 := p76.k s110 rfl
        replace s111 := p76.k s111 rfl
        replace s8 := p76.k s8 rfl
        replace s118 := p76.k s118 rfl
        refine hK138 _ _ ?_
        clear hK138
        refine wp_ret ?_
        try dsimp only [Exit.then, Exit.inBlock]
        refine ret1 p76.s Try.results21 (res_tmp s2) ?_
        have hl139 : decide (b.ps.length = 8) = true := by exact decide_eq_true (by omega)
        have hl140 : decide (b.ls.length ≤ 8) = true := by exact decide_eq_true (by omega)
        have hl141 : decide (b.ds.length ≤ 5000) = true := by exact decide_eq_true (by omega)
        have hat : (fun r => decide (r.f0 < b.made)) b.rs[k] = false := decide_eq_false (by omega)
        have hx142 : b.rs.all (fun r => decide (r.f0 < b.made)) = false := all_fail (P := fun r => decide (r.f0 < b.made)) hlt hat
        exact ⟨by unfold boOk; simp only [hc6, hl139, hc9, hl140, hls, hc53, hc57, hc63, hl141, hds, hc114, hx142, Bool.and_true, Bool.true_and, Bool.and_false, Bool.false_and, Bool.or_true, Bool.true_or, Bool.or_false, Bool.false_or, Bool.not_true, Bool.not_false, Bool.and_self], hB⟩
      replace s118 : a75.eval (.tmp 118) = .bool false := (s118).trans (congrArg Value.bool (decide_eq_false hc137))
      refine c_false s118 ?_
      refine wp_skip ?_
      refine hK127 _ _ ?_
      clear hK127
      refine wp_region_lit ?_
      refine q_v p75.s rfl rfl rfl (g_add (r := ((k + 1 : Nat) : Int)) rfl s110 rfl (by omega) (by omega) ?_)
      intro a76 p76
      refine q_v p76.s rfl rfl rfl (g_move rfl p76.v ?_)
      intro a77 p77
      refine wpList_nil ?_
      replace s1 := p77.k (p76.k s1 rfl) rfl
      replace s2 := p77.k (p76.k s2 rfl) rfl
      replace s108 := p77.k (p76.k s108 rfl) rfl
      replace s109 := p77.k (p76.k s109 rfl) rfl
      replace s110 := p77.v
      replace s111 := p77.k (p76.k s111 rfl) rfl
      replace s8 := p77.k (p76.k s8 rfl) rfl
      replace s118 := p77.k (p76.k s118 rfl) rfl
      refine show _ ∧ _ from ⟨⟨k + 1, p77.s, s1, s2, s108, s109, s110, hB, h_q2, (by omega), (all_step hlt hst (decide_eq_true (by omega)))⟩, ?_⟩
      show b.rs.length - (intOf (a77.eval (.tmp 110))).toNat < b.rs.length - (intOf (a66.eval (.tmp 110))).toNat
      rw [s110, mu123]
      simp only [intOf]
      omega
    replace s111 : a67.eval (.tmp 111) = .bool false := (s111).trans (congrArg Value.bool (decide_eq_false hc126))
    refine c_false s111 ?_
    refine wp_exit ?_
    refine hK119 _ _ ?_
    clear hK119
    refine wp_seq_k fun K143 hK143 => ?_
    have hrs : b.rs.all (fun r => decide (r.f0 < b.made)) = true := all_done (by omega) hst
    refine wp_region_lit ?_
    refine q_v p67.s rfl rfl rfl (g_field (r := 11) rfl s1 Try.underlying32 rfl (fun w => Try.sizeOf24 w) rfl rfl ?_)
    intro a68 p68
    refine q_v p68.s rfl rfl rfl (g_load rfl p68.v Try.isAgg24 (box_cell h_q2 rfl) ?_)
    intro a69 p69
    refine q_v p69.s rfl rfl rfl (g_len (e := _) rfl Try.underlying24 p69.v ?_)
    intro a70 p70
    refine q_v p70.s rfl rfl rfl (g_leq rfl p70.v rfl ?_)
    intro a71 p71
    refine q_v p71.s rfl rfl rfl (g_move rfl p71.v ?_)
    intro a72 p72
    by_cases hc144 : ((b.qs.length : Nat) : Int) ≤ 5000
    · have s123 : a71.eval (.tmp 123) = .bool true := (p71.v).trans (congrArg Value.bool (decide_eq_true hc144))
      have s124 : a72.eval (.tmp 124) = .bool true := (p72.v).trans (congrArg Value.bool (decide_eq_true hc144))
      refine q_t p72.s rfl rfl s124 rfl rfl (g_field (r := 11) rfl (p72.k (p71.k (p70.k (p69.k (p68.k s1 rfl) rfl) rfl) rfl) rfl) Try.underlying32 rfl (fun w => Try.sizeOf24 w) rfl rfl ?_)
      intro a73 p73
      refine q_t p73.s rfl rfl (p73.k s124 rfl) rfl rfl (g_load rfl p73.v Try.isAgg24 (box_cell h_q2 rfl) ?_)
      intro a74 p74
      refine q_t p74.s rfl rfl (p74.k (p73.k s124 rfl) rfl) rfl rfl ?_
      refine g_call rfl rfl Try.call51 (arr3 p74.v rfl rfl) ?_
      refine (allBetween_any _ _ _ b.qs _ _ _ rfl (by omega) (hr_q.below hB)).mono ?_
      rintro e w' ⟨rfl, rfl⟩
      refine ⟨_, rfl, ?_⟩
      intro a75 p75
      refine q_v p75.s rfl rfl rfl (g_pick_t rfl (p75.k (p74.k (p73.k s124 rfl) rfl) rfl) p75.v ?_)
      intro a76 p76
      have s128 : a76.eval (.tmp 128) = .bool (allB b.qs 0 7) := p76.v
      refine q_v p76.s rfl rfl rfl (g_assign rfl s128 ?_)
      intro a77 p77
      refine wpList_nil ?_
      replace s2 := p77.v
      refine hK143 _ _ ?_
      clear hK143
      refine wp_ret ?_
      try dsimp only [Exit.then, Exit.inBlock]
      refine ret1 p77.s Try.results21 (res_tmp s2) ?_
      have hl145 : decide (b.ps.length = 8) = true := by exact decide_eq_true (by omega)
      have hl146 : decide (b.ls.length ≤ 8) = true := by exact decide_eq_true (by omega)
      have hl147 : decide (b.ds.length ≤ 5000) = true := by exact decide_eq_true (by omega)
      have hl148 : decide (b.qs.length ≤ 5000) = true := by exact decide_eq_true (by omega)
      exact ⟨by unfold boOk; simp only [hc6, hl145, hc9, hl146, hls, hc53, hc57, hc63, hl147, hds, hc114, hrs, hl148, Bool.and_true, Bool.true_and, Bool.and_false, Bool.false_and, Bool.or_true, Bool.true_or, Bool.or_false, Bool.false_or, Bool.not_true, Bool.not_false, Bool.and_self], hB⟩
    have s123 : a71.eval (.tmp 123) = .bool false := (p71.v).trans (congrArg Value.bool (decide_eq_false hc144))
    have s124 : a72.eval (.tmp 124) = .bool false := (p72.v).trans (congrArg Value.bool (decide_eq_false hc144))
    refine q_s p72.s rfl rfl s124 rfl rfl ?_
    intro a73 p73
    refine q_s p73.s rfl rfl (p73.k s124 rfl) rfl rfl ?_
    intro a74 p74
    refine q_s p74.s rfl rfl (p74.k (p73.k s124 rfl) rfl) rfl rfl ?_
    intro a75 p75
    refine q_v p75.s rfl rfl rfl (g_pick_f rfl (p75.k (p74.k (p73.k s124 rfl) rfl) rfl) rfl ?_)
    intro a76 p76
    have s128 : a76.eval (.tmp 128) = .bool false := p76.v
    refine q_v p76.s rfl rfl rfl (g_assign rfl s128 ?_)
    intro a77 p77
    refine wpList_nil ?_
    replace s2 := p77.v
    refine hK143 _ _ ?_
    clear hK143
    refine wp_ret ?_
    try dsimp only [Exit.then, Exit.inBlock]
    refine ret1 p77.s Try.results21 (res_tmp s2) ?_
    have hl149 : decide (b.ps.length = 8) = true := by exact decide_eq_true (by omega)
    have hl150 : decide (b.ls.length ≤ 8) = true := by exact decide_eq_true (by omega)
    have hl151 : decide (b.ds.length ≤ 5000) = true := by exact decide_eq_true (by omega)
    have hl152 : decide (b.qs.length ≤ 5000) = false := by exact decide_eq_false (by omega)
    exact ⟨by unfold boOk; simp only [hc6, hl149, hc9, hl150, hls, hc53, hc57, hc63, hl151, hds, hc114, hrs, hl152, Bool.and_true, Bool.true_and, Bool.and_false, Bool.false_and, Bool.or_true, Bool.true_or, Bool.or_false, Bool.false_or, Bool.not_true, Bool.not_false, Bool.and_self], hB⟩
  have s17 : a11.eval (.tmp 17) = .bool true := (p11.v).trans (congrArg (fun b => Value.bool (!b)) (decide_eq_false hc8))
  replace s18 : a12.eval (.tmp 18) = .bool true := (s18).trans (congrArg (fun b => Value.bool (!b)) (decide_eq_false hc8))
  have s19 : a13.eval (.tmp 19) = .bool true := (p13.v).trans (congrArg (fun b => Value.bool (!b)) (decide_eq_false hc8))
  refine q_s p13.s rfl rfl s19 rfl rfl ?_
  intro a14 p14
  refine q_s p14.s rfl rfl (p14.k s19 rfl) rfl rfl ?_
  intro a15 p15
  refine q_s p15.s rfl rfl (p15.k (p14.k s19 rfl) rfl) rfl rfl ?_
  intro a16 p16
  refine q_s p16.s rfl rfl (p16.k (p15.k (p14.k s19 rfl) rfl) rfl) rfl rfl ?_
  intro a17 p17
  refine q_v p17.s rfl rfl rfl (g_pick_t rfl (p17.k (p16.k (p15.k (p14.k s19 rfl) rfl) rfl) rfl) rfl ?_)
  intro a18 p18
  have s24 : a18.eval (.tmp 24) = .bool true := p18.v
  refine wpList_nil ?_
  have kc2 := ((((((((((((((((Kps.nil a2).u p3).u p4).u p5).u p6).u p7).u p8).u p9).u p10).u p11).u p12).u p13).u p14).u p15).u p16).u p17).u p18
  replace s1 := kc2.k s1 rfl
  replace s2 := kc2.k s2 rfl
  clear kc2
  refine hK5 _ _ ?_
  clear hK5
  refine c_true s24 ?_
  refine wp_seq_k fun K153 hK153 => ?_
  refine wp_region_lit ?_
  refine q_v p18.s rfl rfl rfl (g_assign rfl rfl ?_)
  intro a19 p19
  have s2 : a19.eval (.tmp 2) = .bool false := p19.v
  refine wpList_nil ?_
  replace s1 := p19.k s1 rfl
  refine hK153 _ _ ?_
  clear hK153
  refine wp_ret ?_
  try dsimp only [Exit.then, Exit.inBlock]
  refine ret1 p19.s Try.results21 (res_tmp s2) ?_
  have hl154 : decide (b.ps.length = 8) = false := by exact decide_eq_false (by omega)
  exact ⟨by unfold boOk; simp only [hc6, hl154, Bool.and_true, Bool.true_and, Bool.and_false, Bool.false_and, Bool.or_true, Bool.true_or, Bool.or_false, Bool.false_or, Bool.not_true, Bool.not_false, Bool.and_self], hB⟩
end Go.Proofs.Ytoccapmoehdohaa
