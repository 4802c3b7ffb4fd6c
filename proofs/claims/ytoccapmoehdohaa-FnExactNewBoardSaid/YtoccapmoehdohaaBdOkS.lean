/- Contract: boards that are valid, in the reference. No condition. -/
import Derived.Test.YtoccapmoehdohaaBdOk
namespace Go.Proofs.Ytoccapmoehdohaa
open Go.RowKit
set_option linter.unusedSimpArgs false
set_option linter.unusedVariables false

set_option maxRecDepth 100000 in
set_option maxHeartbeats 4000000 in
theorem sBoardOk_any {S : BSl} {b : EBoard} (w : World) (hR : RdB w S b) (hW : BdW b) :
    Calls Try.prog 23 #[bdV S b] w fun e w' => e = .returned (.bool (boOk b)) ∧ Below w.heap.size w w' := by
  obtain ⟨⟨pA, pn, pc⟩, ⟨lA, ln, lc⟩, ⟨oA, on, oc⟩, ⟨dA, dn, dc⟩, ⟨rA, rn, rc⟩, ⟨xA, xn, xc⟩, ⟨qA, qn, qc⟩⟩ := S
  obtain ⟨⟨hr_p, hl_p, hnn_p, hnc_p⟩, ⟨hr_l, hl_l, hnn_l, hnc_l⟩, ⟨hr_o, hl_o, hnn_o, hnc_o⟩, ⟨hr_d, hl_d, hnn_d, hnc_d⟩, ⟨hr_r, hl_r, hnn_r, hnc_r⟩, ⟨hr_x, hl_x, hnn_x, hnc_x⟩, ⟨hr_q, hl_q, hnn_q, hnc_q⟩⟩ := hR
  change b.ps.length = pn at hl_p
  subst pn
  change Rd _ 1 pA b.ps.length (b.ps.flatMap cI) at hr_p
  change pA = none → b.ps.length = 0 ∧ pc = 0 at hnn_p
  change b.ps.length ≤ pc at hnc_p
  change b.ls.length = ln at hl_l
  subst ln
  change Rd _ 3 lA b.ls.length (b.ls.flatMap cLimit) at hr_l
  change lA = none → b.ls.length = 0 ∧ lc = 0 at hnn_l
  change b.ls.length ≤ lc at hnc_l
  change b.os.length = on at hl_o
  subst on
  change Rd _ 5 oA b.os.length (b.os.flatMap cWaiting) at hr_o
  change oA = none → b.os.length = 0 ∧ oc = 0 at hnn_o
  change b.os.length ≤ oc at hnc_o
  change b.ds.length = dn at hl_d
  subst dn
  change Rd _ 3 dA b.ds.length (b.ds.flatMap cDone) at hr_d
  change dA = none → b.ds.length = 0 ∧ dc = 0 at hnn_d
  change b.ds.length ≤ dc at hnc_d
  change b.rs.length = rn at hl_r
  subst rn
  change Rd _ 4 rA b.rs.length (b.rs.flatMap cRecord) at hr_r
  change rA = none → b.rs.length = 0 ∧ rc = 0 at hnn_r
  change b.rs.length ≤ rc at hnc_r
  change b.xs.length = xn at hl_x
  subst xn
  change Rd _ 1 xA b.xs.length (b.xs.flatMap cI) at hr_x
  change xA = none → b.xs.length = 0 ∧ xc = 0 at hnn_x
  change b.xs.length ≤ xc at hnc_x
  change b.qs.length = qn at hl_q
  subst qn
  change Rd _ 1 qA b.qs.length (b.qs.flatMap cI) at hr_q
  change qA = none → b.qs.length = 0 ∧ qc = 0 at hnn_q
  change b.qs.length ≤ qc at hnc_q
  have hW1 := hW.ps
  have hW2 := hW.ls
  have hW3 := hW.os
  have hW4 := hW.ds
  have hW5 := hW.rs
  have hW6 := hW.xs
  have hW7 := hW.qs
  refine enter 166 Try.func23 rfl rfl (Nat.le_of_ble_eq_true rfl) ?_
  intro a0 hs hargs
  have s0 : a0.eval (.tmp 0) = .agg #[.int .i64 b.clk, .slice pA b.ps.length pc, .bool b.safe, .slice lA b.ls.length lc, .slice oA b.os.length oc, .slice dA b.ds.length dc, .int .i64 b.room, .slice rA b.rs.length rc, .slice xA b.xs.length xc, .int .i64 b.made, .int .i64 b.taken, .slice qA b.qs.length qc] := hargs 0 _ rfl
  clear hargs
  have hB : Below w.heap.size w w := Below.refl _ _
  refine wp_seq_k fun K1 hK1 => ?_
  refine wp_region_lit ?_
  refine q_v hs rfl rfl rfl ?_
  refine g_box rfl s0 rfl ?_
  intro q2 w3 N_q2
  replace hB := below_new hB hB.size N_q2
  have h_q2 := N_q2.here
  clear N_q2
  intro a1 p1
  refine q_v p1.s rfl rfl rfl (g_assign rfl rfl ?_)
  intro a2 p2
  have s2 : a2.eval (.tmp 2) = .bool false := p2.v
  refine wpList_nil ?_
  replace s1 := p2.k p1.v rfl
  refine hK1 _ _ ?_
  clear hK1
  refine wp_seq_k fun K4 hK4 => ?_
  refine wp_seq_k fun K5 hK5 => ?_
  refine wp_region_lit ?_
  refine q_v p2.s rfl rfl rfl (g_field (r := 0) rfl s1 Try.underlying32 rfl (fun w => Try.sizeOf3 w) rfl rfl ?_)
  intro a3 p3
  refine q_v p3.s rfl rfl rfl (g_load rfl p3.v Try.isAgg3 (box_cell h_q2 rfl) ?_)
  intro a4 p4
  refine q_v p4.s rfl rfl rfl ?_
  refine g_call rfl rfl Try.call58 (arr3 p4.v rfl rfl) ?_
  refine (l01In_any _ _ _ _).mono ?_
  rintro e w' ⟨rfl, rfl⟩
  refine ⟨_, rfl, ?_⟩
  intro a5 p5
  refine q_v p5.s rfl rfl rfl (g_not rfl p5.v ?_)
  intro a6 p6
  refine q_v p6.s rfl rfl rfl (g_move rfl p6.v ?_)
  intro a7 p7
  cases hc6 : inB b.clk 0 1000000
  · have s12 : a5.eval (.tmp 12) = .bool false := (p5.v).trans (congrArg Value.bool hc6)
    have s13 : a6.eval (.tmp 13) = .bool true := (p6.v).trans (congrArg (fun b => Value.bool (!b)) hc6)
    have s14 : a7.eval (.tmp 14) = .bool true := (p7.v).trans (congrArg (fun b => Value.bool (!b)) hc6)
    refine q_s p7.s rfl rfl s14 rfl rfl ?_
    intro a8 p8
    refine q_s p8.s rfl rfl (p8.k s14 rfl) rfl rfl ?_
    intro a9 p9
    refine q_s p9.s rfl rfl (p9.k (p8.k s14 rfl) rfl) rfl rfl ?_
    intro a10 p10
    refine q_s p10.s rfl rfl (p10.k (p9.k (p8.k s14 rfl) rfl) rfl) rfl rfl ?_
    intro a11 p11
    refine q_v p11.s rfl rfl rfl (g_pick_t rfl (p11.k (p10.k (p9.k (p8.k s14 rfl) rfl) rfl) rfl) rfl ?_)
    intro a12 p12
    have s19 : a12.eval (.tmp 19) = .bool true := p12.v
    refine q_v p12.s rfl rfl rfl (g_move rfl s19 ?_)
    intro a13 p13
    refine q_s p13.s rfl rfl p13.v rfl rfl ?_
    intro a14 p14
    refine q_s p14.s rfl rfl (p14.k p13.v rfl) rfl rfl ?_
    intro a15 p15
    refine q_s p15.s rfl rfl (p15.k (p14.k p13.v rfl) rfl) rfl rfl ?_
    intro a16 p16
    refine q_s p16.s rfl rfl (p16.k (p15.k (p14.k p13.v rfl) rfl) rfl) rfl rfl ?_
    intro a17 p17
    refine q_v p17.s rfl rfl rfl (g_pick_t rfl (p17.k (p16.k (p15.k (p14.k p13.v rfl) rfl) rfl) rfl) rfl ?_)
    intro a18 p18
    have s25 : a18.eval (.tmp 25) = .bool true := p18.v
    refine q_v p18.s rfl rfl rfl (g_move rfl s25 ?_)
    intro a19 p19
    refine q_s p19.s rfl rfl p19.v rfl rfl ?_
    intro a20 p20
    refine q_s p20.s rfl rfl (p20.k p19.v rfl) rfl rfl ?_
    intro a21 p21
    refine q_s p21.s rfl rfl (p21.k (p20.k p19.v rfl) rfl) rfl rfl ?_
    intro a22 p22
    refine q_s p22.s rfl rfl (p22.k (p21.k (p20.k p19.v rfl) rfl) rfl) rfl rfl ?_
    intro a23 p23
    refine q_v p23.s rfl rfl rfl (g_pick_t rfl (p23.k (p22.k (p21.k (p20.k p19.v rfl) rfl) rfl) rfl) rfl ?_)
    intro a24 p24
    have s31 : a24.eval (.tmp 31) = .bool true := p24.v
    refine q_v p24.s rfl rfl rfl (g_move rfl s31 ?_)
    intro a25 p25
    refine q_s p25.s rfl rfl p25.v rfl rfl ?_
    intro a26 p26
    refine q_s p26.s rfl rfl (p26.k p25.v rfl) rfl rfl ?_
    intro a27 p27
    refine q_s p27.s rfl rfl (p27.k (p26.k p25.v rfl) rfl) rfl rfl ?_
    intro a28 p28
    refine q_s p28.s rfl rfl (p28.k (p27.k (p26.k p25.v rfl) rfl) rfl) rfl rfl ?_
    intro a29 p29
    refine q_v p29.s rfl rfl rfl (g_pick_t rfl (p29.k (p28.k (p27.k (p26.k p25.v rfl) rfl) rfl) rfl) rfl ?_)
    intro a30 p30
    have s37 : a30.eval (.tmp 37) = .bool true := p30.v
    refine q_v p30.s rfl rfl rfl (g_move rfl s37 ?_)
    intro a31 p31
    refine q_s p31.s rfl rfl p31.v rfl rfl ?_
    intro a32 p32
    refine q_s p32.s rfl rfl (p32.k p31.v rfl) rfl rfl ?_
    intro a33 p33
    refine q_s p33.s rfl rfl (p33.k (p32.k p31.v rfl) rfl) rfl rfl ?_
    intro a34 p34
    refine q_s p34.s rfl rfl (p34.k (p33.k (p32.k p31.v rfl) rfl) rfl) rfl rfl ?_
    intro a35 p35
    refine q_v p35.s rfl rfl rfl (g_pick_t rfl (p35.k (p34.k (p33.k (p32.k p31.v rfl) rfl) rfl) rfl) rfl ?_)
    intro a36 p36
    have s43 : a36.eval (.tmp 43) = .bool true := p36.v
    refine q_v p36.s rfl rfl rfl (g_move rfl s43 ?_)
    intro a37 p37
    refine q_s p37.s rfl rfl p37.v rfl rfl ?_
    intro a38 p38
    refine q_s p38.s rfl rfl (p38.k p37.v rfl) rfl rfl ?_
    intro a39 p39
    refine q_s p39.s rfl rfl (p39.k (p38.k p37.v rfl) rfl) rfl rfl ?_
    intro a40 p40
    refine q_s p40.s rfl rfl (p40.k (p39.k (p38.k p37.v rfl) rfl) rfl) rfl rfl ?_
    intro a41 p41
    refine q_v p41.s rfl rfl rfl (g_pick_t rfl (p41.k (p40.k (p39.k (p38.k p37.v rfl) rfl) rfl) rfl) rfl ?_)
    intro a42 p42
    have s49 : a42.eval (.tmp 49) = .bool true := p42.v
    refine q_v p42.s rfl rfl rfl (g_move rfl s49 ?_)
    intro a43 p43
    refine q_s p43.s rfl rfl p43.v rfl rfl ?_
    intro a44 p44
    refine q_s p44.s rfl rfl (p44.k p43.v rfl) rfl rfl ?_
    intro a45 p45
    refine q_s p45.s rfl rfl (p45.k (p44.k p43.v rfl) rfl) rfl rfl ?_
    intro a46 p46
    refine q_s p46.s rfl rfl (p46.k (p45.k (p44.k p43.v rfl) rfl) rfl) rfl rfl ?_
    intro a47 p47
    refine q_v p47.s rfl rfl rfl (g_pick_t rfl (p47.k (p46.k (p45.k (p44.k p43.v rfl) rfl) rfl) rfl) rfl ?_)
    intro a48 p48
    have s55 : a48.eval (.tmp 55) = .bool true := p48.v
    refine q_v p48.s rfl rfl rfl (g_move rfl s55 ?_)
    intro a49 p49
    refine q_s p49.s rfl rfl p49.v rfl rfl ?_
    intro a50 p50
    refine q_s p50.s rfl rfl (p50.k p49.v rfl) rfl rfl ?_
    intro a51 p51
    refine q_s p51.s rfl rfl (p51.k (p50.k p49.v rfl) rfl) rfl rfl ?_
    intro a52 p52
    refine q_v p52.s rfl rfl rfl (g_pick_t rfl (p52.k (p51.k (p50.k p49.v rfl) rfl) rfl) rfl ?_)
    intro a53 p53
    have s60 : a53.eval (.tmp 60) = .bool true := p53.v
    refine wpList_nil ?_
    have kc2 := (((((((((((((((((((((((((((((((((((((((((((((((((((Kps.nil a2).u p3).u p4).u p5).u p6).u p7).u p8).u p9).u p10).u p11).u p12).u p13).u p14).u p15).u p16).u p17).u p18).u p19).u p20).u p21).u p22).u p23).u p24).u p25).u p26).u p27).u p28).u p29).u p30).u p31).u p32).u p33).u p34).u p35).u p36).u p37).u p38).u p39).u p40).u p41).u p42).u p43).u p44).u p45).u p46).u p47).u p48).u p49).u p50).u p51).u p52).u p53
    replace s1 := kc2.k s1 rfl
    replace s2 := kc2.k s2 rfl
    clear kc2
    refine hK5 _ _ ?_
    clear hK5
    refine c_true s60 ?_
    refine wp_seq_k fun K7 hK7 => ?_
    refine wp_region_lit ?_
    refine q_v p53.s rfl rfl rfl (g_assign rfl rfl ?_)
    intro a54 p54
    have s2 : a54.eval (.tmp 2) = .bool false := p54.v
    refine wpList_nil ?_
    replace s1 := p54.k s1 rfl
    refine hK7 _ _ ?_
    clear hK7
    refine wp_ret ?_
    try dsimp only [Exit.then, Exit.inBlock]
    refine ret1 p54.s Try.results23 (res_tmp s2) ?_
    exact ⟨by unfold boOk; simp only [hc6, Bool.and_true, Bool.true_and, Bool.and_false, Bool.false_and, Bool.or_true, Bool.true_or, Bool.or_false, Bool.false_or, Bool.not_true, Bool.not_false, Bool.and_self], hB⟩
  have s12 : a5.eval (.tmp 12) = .bool true := (p5.v).trans (congrArg Value.bool hc6)
  have s13 : a6.eval (.tmp 13) = .bool false := (p6.v).trans (congrArg (fun b => Value.bool (!b)) hc6)
  have s14 : a7.eval (.tmp 14) = .bool false := (p7.v).trans (congrArg (fun b => Value.bool (!b)) hc6)
  refine q_t p7.s rfl rfl s14 rfl rfl (g_field (r := 1) rfl (p7.k (p6.k (p5.k (p4.k (p3.k s1 rfl) rfl) rfl) rfl) rfl) Try.underlying32 rfl (fun w => Try.sizeOf24 w) rfl rfl ?_)
  intro a8 p8
  refine q_t p8.s rfl rfl (p8.k s14 rfl) rfl rfl (g_load rfl p8.v Try.isAgg24 (box_cell h_q2 rfl) ?_)
  intro a9 p9
  refine q_t p9.s rfl rfl (p9.k (p8.k s14 rfl) rfl) rfl rfl (g_len (e := _) rfl Try.underlying24 p9.v ?_)
  intro a10 p10
  refine q_t p10.s rfl rfl (p10.k (p9.k (p8.k s14 rfl) rfl) rfl) rfl rfl (g_neq rfl p10.v rfl ?_)
  intro a11 p11
  refine q_v p11.s rfl rfl rfl (g_pick_f rfl (p11.k (p10.k (p9.k (p8.k s14 rfl) rfl) rfl) rfl) p11.v ?_)
  intro a12 p12
  have s19 : a12.eval (.tmp 19) = .bool (!decide (((b.ps.length : Nat) : Int) = 8)) := p12.v
  refine q_v p12.s rfl rfl rfl (g_move rfl s19 ?_)
  intro a13 p13
  by_cases hc8 : ((b.ps.length : Nat) : Int) = 8
  · have s18 : a11.eval (.tmp 18) = .bool false := (p11.v).trans (congrArg (fun b => Value.bool (!b)) (decide_eq_true hc8))
    replace s19 : a12.eval (.tmp 19) = .bool false := (s19).trans (congrArg (fun b => Value.bool (!b)) (decide_eq_true hc8))
    have s20 : a13.eval (.tmp 20) = .bool false := (p13.v).trans (congrArg (fun b => Value.bool (!b)) (decide_eq_true hc8))
    refine q_t p13.s rfl rfl s20 rfl rfl (g_field (r := 3) rfl (p13.k (p12.k (p11.k (p10.k (p9.k (p8.k (p7.k (p6.k (p5.k (p4.k (p3.k s1 rfl) rfl) rfl) rfl) rfl) rfl) rfl) rfl) rfl) rfl) rfl) Try.underlying32 rfl (fun w => Try.sizeOf25 w) rfl rfl ?_)
    intro a14 p14
    refine q_t p14.s rfl rfl (p14.k s20 rfl) rfl rfl (g_load rfl p14.v Try.isAgg25 (box_cell h_q2 rfl) ?_)
    intro a15 p15
    refine q_t p15.s rfl rfl (p15.k (p14.k s20 rfl) rfl) rfl rfl (g_len (e := _) rfl Try.underlying25 p15.v ?_)
    intro a16 p16
    refine q_t p16.s rfl rfl (p16.k (p15.k (p14.k s20 rfl) rfl) rfl) rfl rfl (g_gtr rfl p16.v rfl ?_)
    intro a17 p17
    refine q_v p17.s rfl rfl rfl (g_pick_f rfl (p17.k (p16.k (p15.k (p14.k s20 rfl) rfl) rfl) rfl) p17.v ?_)
    intro a18 p18
    have s25 : a18.eval (.tmp 25) = .bool (decide (8 < ((b.ls.length : Nat) : Int))) := p18.v
    refine q_v p18.s rfl rfl rfl (g_move rfl s25 ?_)
    intro a19 p19
    by_cases hc9 : 8 < ((b.ls.length : Nat) : Int)
    · have s24 : a17.eval (.tmp 24) = .bool true := (p17.v).trans (congrArg Value.bool (decide_eq_true hc9))
      replace s25 : a18.eval (.tmp 25) = .bool true := (s25).trans (congrArg Value.bool (decide_eq_true hc9))
      have s26 : a19.eval (.tmp 26) = .bool true := (p19.v).trans (congrArg Value.bool (decide_eq_true hc9))
      refine q_s p19.s rfl rfl s26 rfl rfl ?_
      intro a20 p20
      refine q_s p20.s rfl rfl (p20.k s26 rfl) rfl rfl ?_
      intro a21 p21
      refine q_s p21.s rfl rfl (p21.k (p20.k s26 rfl) rfl) rfl rfl ?_
      intro a22 p22
      refine q_s p22.s rfl rfl (p22.k (p21.k (p20.k s26 rfl) rfl) rfl) rfl rfl ?_
      intro a23 p23
      refine q_v p23.s rfl rfl rfl (g_pick_t rfl (p23.k (p22.k (p21.k (p20.k s26 rfl) rfl) rfl) rfl) rfl ?_)
      intro a24 p24
      have s31 : a24.eval (.tmp 31) = .bool true := p24.v
      refine q_v p24.s rfl rfl rfl (g_move rfl s31 ?_)
      intro a25 p25
      refine q_s p25.s rfl rfl p25.v rfl rfl ?_
      intro a26 p26
      refine q_s p26.s rfl rfl (p26.k p25.v rfl) rfl rfl ?_
      intro a27 p27
      refine q_s p27.s rfl rfl (p27.k (p26.k p25.v rfl) rfl) rfl rfl ?_
      intro a28 p28
      refine q_s p28.s rfl rfl (p28.k (p27.k (p26.k p25.v rfl) rfl) rfl) rfl rfl ?_
      intro a29 p29
      refine q_v p29.s rfl rfl rfl (g_pick_t rfl (p29.k (p28.k (p27.k (p26.k p25.v rfl) rfl) rfl) rfl) rfl ?_)
      intro a30 p30
      have s37 : a30.eval (.tmp 37) = .bool true := p30.v
      refine q_v p30.s rfl rfl rfl (g_move rfl s37 ?_)
      intro a31 p31
      refine q_s p31.s rfl rfl p31.v rfl rfl ?_
      intro a32 p32
      refine q_s p32.s rfl rfl (p32.k p31.v rfl) rfl rfl ?_
      intro a33 p33
      refine q_s p33.s rfl rfl (p33.k (p32.k p31.v rfl) rfl) rfl rfl ?_
      intro a34 p34
      refine q_s p34.s rfl rfl (p34.k (p33.k (p32.k p31.v rfl) rfl) rfl) rfl rfl ?_
      intro a35 p35
      refine q_v p35.s rfl rfl rfl (g_pick_t rfl (p35.k (p34.k (p33.k (p32.k p31.v rfl) rfl) rfl) rfl) rfl ?_)
      intro a36 p36
      have s43 : a36.eval (.tmp 43) = .bool true := p36.v
      refine q_v p36.s rfl rfl rfl (g_move rfl s43 ?_)
      intro a37 p37
      refine q_s p37.s rfl rfl p37.v rfl rfl ?_
      intro a38 p38
      refine q_s p38.s rfl rfl (p38.k p37.v rfl) rfl rfl ?_
      intro a39 p39
      refine q_s p39.s rfl rfl (p39.k (p38.k p37.v rfl) rfl) rfl rfl ?_
      intro a40 p40
      refine q_s p40.s rfl rfl (p40.k (p39.k (p38.k p37.v rfl) rfl) rfl) rfl rfl ?_
      intro a41 p41
      refine q_v p41.s rfl rfl rfl (g_pick_t rfl (p41.k (p40.k (p39.k (p38.k p37.v rfl) rfl) rfl) rfl) rfl ?_)
      intro a42 p42
      have s49 : a42.eval (.tmp 49) = .bool true := p42.v
      refine q_v p42.s rfl rfl rfl (g_move rfl s49 ?_)
      intro a43 p43
      refine q_s p43.s rfl rfl p43.v rfl rfl ?_
      intro a44 p44
      refine q_s p44.s rfl rfl (p44.k p43.v rfl) rfl rfl ?_
      intro a45 p45
      refine q_s p45.s rfl rfl (p45.k (p44.k p43.v rfl) rfl) rfl rfl ?_
      intro a46 p46
      refine q_s p46.s rfl rfl (p46.k (p45.k (p44.k p43.v rfl) rfl) rfl) rfl rfl ?_
      intro a47 p47
      refine q_v p47.s rfl rfl rfl (g_pick_t rfl (p47.k (p46.k (p45.k (p44.k p43.v rfl) rfl) rfl) rfl) rfl ?_)
      intro a48 p48
      have s55 : a48.eval (.tmp 55) = .bool true := p48.v
      refine q_v p48.s rfl rfl rfl (g_move rfl s55 ?_)
      intro a49 p49
      refine q_s p49.s rfl rfl p49.v rfl rfl ?_
      intro a50 p50
      refine q_s p50.s rfl rfl (p50.k p49.v rfl) rfl rfl ?_
      intro a51 p51
      refine q_s p51.s rfl rfl (p51.k (p50.k p49.v rfl) rfl) rfl rfl ?_
      intro a52 p52
      refine q_v p52.s rfl rfl rfl (g_pick_t rfl (p52.k (p51.k (p50.k p49.v rfl) rfl) rfl) rfl ?_)
      intro a53 p53
      have s60 : a53.eval (.tmp 60) = .bool true := p53.v
      refine wpList_nil ?_
      have kc2 := (((((((((((((((((((((((((((((((((((((((((((((((((((Kps.nil a2).u p3).u p4).u p5).u p6).u p7).u p8).u p9).u p10).u p11).u p12).u p13).u p14).u p15).u p16).u p17).u p18).u p19).u p20).u p21).u p22).u p23).u p24).u p25).u p26).u p27).u p28).u p29).u p30).u p31).u p32).u p33).u p34).u p35).u p36).u p37).u p38).u p39).u p40).u p41).u p42).u p43).u p44).u p45).u p46).u p47).u p48).u p49).u p50).u p51).u p52).u p53
      replace s1 := kc2.k s1 rfl
      replace s2 := kc2.k s2 rfl
      clear kc2
      refine hK5 _ _ ?_
      clear hK5
      refine c_true s60 ?_
      refine wp_seq_k fun K10 hK10 => ?_
      refine wp_region_lit ?_
      refine q_v p53.s rfl rfl rfl (g_assign rfl rfl ?_)
      intro a54 p54
      have s2 : a54.eval (.tmp 2) = .bool false := p54.v
      refine wpList_nil ?_
      replace s1 := p54.k s1 rfl
      refine hK10 _ _ ?_
      clear hK10
      refine wp_ret ?_
      try dsimp only [Exit.then, Exit.inBlock]
      refine ret1 p54.s Try.results23 (res_tmp s2) ?_
      have hl11 : decide (b.ps.length = 8) = true := by exact decide_eq_true (by omega)
      have hl12 : decide (b.ls.length ≤ 8) = false := by exact decide_eq_false (by omega)
      exact ⟨by unfold boOk; simp only [hc6, hl11, hl12, Bool.and_true, Bool.true_and, Bool.and_false, Bool.false_and, Bool.or_true, Bool.true_or, Bool.or_false, Bool.false_or, Bool.not_true, Bool.not_false, Bool.and_self], hB⟩
    have s24 : a17.eval (.tmp 24) = .bool false := (p17.v).trans (congrArg Value.bool (decide_eq_false hc9))
    replace s25 : a18.eval (.tmp 25) = .bool false := (s25).trans (congrArg Value.bool (decide_eq_false hc9))
    have s26 : a19.eval (.tmp 26) = .bool false := (p19.v).trans (congrArg Value.bool (decide_eq_false hc9))
    refine q_t p19.s rfl rfl s26 rfl rfl (g_field (r := 9) rfl (p19.k (p18.k (p17.k (p16.k (p15.k (p14.k (p13.k (p12.k (p11.k (p10.k (p9.k (p8.k (p7.k (p6.k (p5.k (p4.k (p3.k s1 rfl) rfl) rfl) rfl) rfl) rfl) rfl) rfl) rfl) rfl) rfl) rfl) rfl) rfl) rfl) rfl) rfl) Try.underlying32 rfl (fun w => Try.sizeOf3 w) rfl rfl ?_)
    intro a20 p20
    refine q_t p20.s rfl rfl (p20.k s26 rfl) rfl rfl (g_load rfl p20.v Try.isAgg3 (box_cell h_q2 rfl) ?_)
    intro a21 p21
    refine q_t p21.s rfl rfl (p21.k (p20.k s26 rfl) rfl) rfl rfl ?_
    refine g_call rfl rfl Try.call58 (arr3 p21.v rfl rfl) ?_
    refine (l01In_any _ _ _ _).mono ?_
    rintro e w' ⟨rfl, rfl⟩
    refine ⟨_, rfl, ?_⟩
    intro a22 p22
    refine q_t p22.s rfl rfl (p22.k (p21.k (p20.k s26 rfl) rfl) rfl) rfl rfl (g_not rfl p22.v ?_)
    intro a23 p23
    refine q_v p23.s rfl rfl rfl (g_pick_f rfl (p23.k (p22.k (p21.k (p20.k s26 rfl) rfl) rfl) rfl) p23.v ?_)
    intro a24 p24
    have s31 : a24.eval (.tmp 31) = .bool (!(inB b.made 0 65535)) := p24.v
    refine q_v p24.s rfl rfl rfl (g_move rfl s31 ?_)
    intro a25 p25
    cases hc13 : inB b.made 0 65535
    · have s29 : a22.eval (.tmp 29) = .bool false := (p22.v).trans (congrArg Value.bool hc13)
      have s30 : a23.eval (.tmp 30) = .bool true := (p23.v).trans (congrArg (fun b => Value.bool (!b)) hc13)
      replace s31 : a24.eval (.tmp 31) = .bool true := (s31).trans (congrArg (fun b => Value.bool (!b)) hc13)
      have s32 : a25.eval (.tmp 32) = .bool true := (p25.v).trans (congrArg (fun b => Value.bool (!b)) hc13)
      refine q_s p25.s rfl rfl s32 rfl rfl ?_
      intro a26 p26
      refine q_s p26.s rfl rfl (p26.k s32 rfl) rfl rfl ?_
      intro a27 p27
      refine q_s p27.s rfl rfl (p27.k (p26.k s32 rfl) rfl) rfl rfl ?_
      intro a28 p28
      refine q_s p28.s rfl rfl (p28.k (p27.k (p26.k s32 rfl) rfl) rfl) rfl rfl ?_
      intro a29 p29
      refine q_v p29.s rfl rfl rfl (g_pick_t rfl (p29.k (p28.k (p27.k (p26.k s32 rfl) rfl) rfl) rfl) rfl ?_)
      intro a30 p30
      have s37 : a30.eval (.tmp 37) = .bool true := p30.v
      refine q_v p30.s rfl rfl rfl (g_move rfl s37 ?_)
      intro a31 p31
      refine q_s p31.s rfl rfl p31.v rfl rfl ?_
      intro a32 p32
      refine q_s p32.s rfl rfl (p32.k p31.v rfl) rfl rfl ?_
      intro a33 p33
      refine q_s p33.s rfl rfl (p33.k (p32.k p31.v rfl) rfl) rfl rfl ?_
      intro a34 p34
      refine q_s p34.s rfl rfl (p34.k (p33.k (p32.k p31.v rfl) rfl) rfl) rfl rfl ?_
      intro a35 p35
      refine q_v p35.s rfl rfl rfl (g_pick_t rfl (p35.k (p34.k (p33.k (p32.k p31.v rfl) rfl) rfl) rfl) rfl ?_)
      intro a36 p36
      have s43 : a36.eval (.tmp 43) = .bool true := p36.v
      refine q_v p36.s rfl rfl rfl (g_move rfl s43 ?_)
      intro a37 p37
      refine q_s p37.s rfl rfl p37.v rfl rfl ?_
      intro a38 p38
      refine q_s p38.s rfl rfl (p38.k p37.v rfl) rfl rfl ?_
      intro a39 p39
      refine q_s p39.s rfl rfl (p39.k (p38.k p37.v rfl) rfl) rfl rfl ?_
      intro a40 p40
      refine q_s p40.s rfl rfl (p40.k (p39.k (p38.k p37.v rfl) rfl) rfl) rfl rfl ?_
      intro a41 p41
      refine q_v p41.s rfl rfl rfl (g_pick_t rfl (p41.k (p40.k (p39.k (p38.k p37.v rfl) rfl) rfl) rfl) rfl ?_)
      intro a42 p42
      have s49 : a42.eval (.tmp 49) = .bool true := p42.v
      refine q_v p42.s rfl rfl rfl (g_move rfl s49 ?_)
      intro a43 p43
      refine q_s p43.s rfl rfl p43.v rfl rfl ?_
      intro a44 p44
      refine q_s p44.s rfl rfl (p44.k p43.v rfl) rfl rfl ?_
      intro a45 p45
      refine q_s p45.s rfl rfl (p45.k (p44.k p43.v rfl) rfl) rfl rfl ?_
      intro a46 p46
      refine q_s p46.s rfl rfl (p46.k (p45.k (p44.k p43.v rfl) rfl) rfl) rfl rfl ?_
      intro a47 p47
      refine q_v p47.s rfl rfl rfl (g_pick_t rfl (p47.k (p46.k (p45.k (p44.k p43.v rfl) rfl) rfl) rfl) rfl ?_)
      intro a48 p48
      have s55 : a48.eval (.tmp 55) = .bool true := p48.v
      refine q_v p48.s rfl rfl rfl (g_move rfl s55 ?_)
      intro a49 p49
      refine q_s p49.s rfl rfl p49.v rfl rfl ?_
      intro a50 p50
      refine q_s p50.s rfl rfl (p50.k p49.v rfl) rfl rfl ?_
      intro a51 p51
      refine q_s p51.s rfl rfl (p51.k (p50.k p49.v rfl) rfl) rfl rfl ?_
      intro a52 p52
      refine q_v p52.s rfl rfl rfl (g_pick_t rfl (p52.k (p51.k (p50.k p49.v rfl) rfl) rfl) rfl ?_)
      intro a53 p53
      have s60 : a53.eval (.tmp 60) = .bool true := p53.v
      refine wpList_nil ?_
      have kc2 := (((((((((((((((((((((((((((((((((((((((((((((((((((Kps.nil a2).u p3).u p4).u p5).u p6).u p7).u p8).u p9).u p10).u p11).u p12).u p13).u p14).u p15).u p16).u p17).u p18).u p19).u p20).u p21).u p22).u p23).u p24).u p25).u p26).u p27).u p28).u p29).u p30).u p31).u p32).u p33).u p34).u p35).u p36).u p37).u p38).u p39).u p40).u p41).u p42).u p43).u p44).u p45).u p46).u p47).u p48).u p49).u p50).u p51).u p52).u p53
      replace s1 := kc2.k s1 rfl
      replace s2 := kc2.k s2 rfl
      clear kc2
      refine hK5 _ _ ?_
      clear hK5
      refine c_true s60 ?_
      refine wp_seq_k fun K14 hK14 => ?_
      refine wp_region_lit ?_
      refine q_v p53.s rfl rfl rfl (g_assign rfl rfl ?_)
      intro a54 p54
      have s2 : a54.eval (.tmp 2) = .bool false := p54.v
      refine wpList_nil ?_
      replace s1 := p54.k s1 rfl
      refine hK14 _ _ ?_
      clear hK14
      refine wp_ret ?_
      try dsimp only [Exit.then, Exit.inBlock]
      refine ret1 p54.s Try.results23 (res_tmp s2) ?_
      have hl15 : decide (b.ps.length = 8) = true := by exact decide_eq_true (by omega)
      have hl16 : decide (b.ls.length ≤ 8) = true := by exact decide_eq_true (by omega)
      exact ⟨by unfold boOk; simp only [hc6, hl15, hl16, hc13, Bool.and_true, Bool.true_and, Bool.and_false, Bool.false_and, Bool.or_true, Bool.true_or, Bool.or_false, Bool.false_or, Bool.not_true, Bool.not_false, Bool.and_self], hB⟩
    have htk_made := inB_true hc13
    have s29 : a22.eval (.tmp 29) = .bool true := (p22.v).trans (congrArg Value.bool hc13)
    have s30 : a23.eval (.tmp 30) = .bool false := (p23.v).trans (congrArg (fun b => Value.bool (!b)) hc13)
    replace s31 : a24.eval (.tmp 31) = .bool false := (s31).trans (congrArg (fun b => Value.bool (!b)) hc13)
    have s32 : a25.eval (.tmp 32) = .bool false := (p25.v).trans (congrArg (fun b => Value.bool (!b)) hc13)
    refine q_t p25.s rfl rfl s32 rfl rfl (g_field (r := 10) rfl (p25.k (p24.k (p23.k (p22.k (p21.k (p20.k (p19.k (p18.k (p17.k (p16.k (p15.k (p14.k (p13.k (p12.k (p11.k (p10.k (p9.k (p8.k (p7.k (p6.k (p5.k (p4.k (p3.k s1 rfl) rfl) rfl) rfl) rfl) rfl) rfl) rfl) rfl) rfl) rfl) rfl) rfl) rfl) rfl) rfl) rfl) rfl) rfl) rfl) rfl) rfl) rfl) Try.underlying32 rfl (fun w => Try.sizeOf3 w) rfl rfl ?_)
    intro a26 p26
    refine q_t p26.s rfl rfl (p26.k s32 rfl) rfl rfl (g_load rfl p26.v Try.isAgg3 (box_cell h_q2 rfl) ?_)
    intro a27 p27
    refine q_t p27.s rfl rfl (p27.k (p26.k s32 rfl) rfl) rfl rfl ?_
    refine g_call rfl rfl Try.call58 (arr3 p27.v rfl rfl) ?_
    refine (l01In_any _ _ _ _).mono ?_
    rintro e w' ⟨rfl, rfl⟩
    refine ⟨_, rfl, ?_⟩
    intro a28 p28
    refine q_t p28.s rfl rfl (p28.k (p27.k (p26.k s32 rfl) rfl) rfl) rfl rfl (g_not rfl p28.v ?_)
    intro a29 p29
    refine q_v p29.s rfl rfl rfl (g_pick_f rfl (p29.k (p28.k (p27.k (p26.k s32 rfl) rfl) rfl) rfl) p29.v ?_)
    intro a30 p30
    have s37 : a30.eval (.tmp 37) = .bool (!(inB b.taken 0 65535)) := p30.v
    refine q_v p30.s rfl rfl rfl (g_move rfl s37 ?_)
    intro a31 p31
    cases hc17 : inB b.taken 0 65535
    · have s35 : a28.eval (.tmp 35) = .bool false := (p28.v).trans (congrArg Value.bool hc17)
      have s36 : a29.eval (.tmp 36) = .bool true := (p29.v).trans (congrArg (fun b => Value.bool (!b)) hc17)
      replace s37 : a30.eval (.tmp 37) = .bool true := (s37).trans (congrArg (fun b => Value.bool (!b)) hc17)
      have s38 : a31.eval (.tmp 38) = .bool true := (p31.v).trans (congrArg (fun b => Value.bool (!b)) hc17)
      refine q_s p31.s rfl rfl s38 rfl rfl ?_
      intro a32 p32
      refine q_s p32.s rfl rfl (p32.k s38 rfl) rfl rfl ?_
      intro a33 p33
      refine q_s p33.s rfl rfl (p33.k (p32.k s38 rfl) rfl) rfl rfl ?_
      intro a34 p34
      refine q_s p34.s rfl rfl (p34.k (p33.k (p32.k s38 rfl) rfl) rfl) rfl rfl ?_
      intro a35 p35
      refine q_v p35.s rfl rfl rfl (g_pick_t rfl (p35.k (p34.k (p33.k (p32.k s38 rfl) rfl) rfl) rfl) rfl ?_)
      intro a36 p36
      have s43 : a36.eval (.tmp 43) = .bool true := p36.v
      refine q_v p36.s rfl rfl rfl (g_move rfl s43 ?_)
      intro a37 p37
      refine q_s p37.s rfl rfl p37.v rfl rfl ?_
      intro a38 p38
      refine q_s p38.s rfl rfl (p38.k p37.v rfl) rfl rfl ?_
      intro a39 p39
      refine q_s p39.s rfl rfl (p39.k (p38.k p37.v rfl) rfl) rfl rfl ?_
      intro a40 p40
      refine q_s p40.s rfl rfl (p40.k (p39.k (p38.k p37.v rfl) rfl) rfl) rfl rfl ?_
      intro a41 p41
      refine q_v p41.s rfl rfl rfl (g_pick_t rfl (p41.k (p40.k (p39.k (p38.k p37.v rfl) rfl) rfl) rfl) rfl ?_)
      intro a42 p42
      have s49 : a42.eval (.tmp 49) = .bool true := p42.v
      refine q_v p42.s rfl rfl rfl (g_move rfl s49 ?_)
      intro a43 p43
      refine q_s p43.s rfl rfl p43.v rfl rfl ?_
      intro a44 p44
      refine q_s p44.s rfl rfl (p44.k p43.v rfl) rfl rfl ?_
      intro a45 p45
      refine q_s p45.s rfl rfl (p45.k (p44.k p43.v rfl) rfl) rfl rfl ?_
      intro a46 p46
      refine q_s p46.s rfl rfl (p46.k (p45.k (p44.k p43.v rfl) rfl) rfl) rfl rfl ?_
      intro a47 p47
      refine q_v p47.s rfl rfl rfl (g_pick_t rfl (p47.k (p46.k (p45.k (p44.k p43.v rfl) rfl) rfl) rfl) rfl ?_)
      intro a48 p48
      have s55 : a48.eval (.tmp 55) = .bool true := p48.v
      refine q_v p48.s rfl rfl rfl (g_move rfl s55 ?_)
      intro a49 p49
      refine q_s p49.s rfl rfl p49.v rfl rfl ?_
      intro a50 p50
      refine q_s p50.s rfl rfl (p50.k p49.v rfl) rfl rfl ?_
      intro a51 p51
      refine q_s p51.s rfl rfl (p51.k (p50.k p49.v rfl) rfl) rfl rfl ?_
      intro a52 p52
      refine q_v p52.s rfl rfl rfl (g_pick_t rfl (p52.k (p51.k (p50.k p49.v rfl) rfl) rfl) rfl ?_)
      intro a53 p53
      have s60 : a53.eval (.tmp 60) = .bool true := p53.v
      refine wpList_nil ?_
      have kc2 := (((((((((((((((((((((((((((((((((((((((((((((((((((Kps.nil a2).u p3).u p4).u p5).u p6).u p7).u p8).u p9).u p10).u p11).u p12).u p13).u p14).u p15).u p16).u p17).u p18).u p19).u p20).u p21).u p22).u p23).u p24).u p25).u p26).u p27).u p28).u p29).u p30).u p31).u p32).u p33).u p34).u p35).u p36).u p37).u p38).u p39).u p40).u p41).u p42).u p43).u p44).u p45).u p46).u p47).u p48).u p49).u p50).u p51).u p52).u p53
      replace s1 := kc2.k s1 rfl
      replace s2 := kc2.k s2 rfl
      clear kc2
      refine hK5 _ _ ?_
      clear hK5
      refine c_true s60 ?_
      refine wp_seq_k fun K18 hK18 => ?_
      refine wp_region_lit ?_
      refine q_v p53.s rfl rfl rfl (g_assign rfl rfl ?_)
      intro a54 p54
      have s2 : a54.eval (.tmp 2) = .bool false := p54.v
      refine wpList_nil ?_
      replace s1 := p54.k s1 rfl
      refine hK18 _ _ ?_
      clear hK18
      refine wp_ret ?_
      try dsimp only [Exit.then, Exit.inBlock]
      refine ret1 p54.s Try.results23 (res_tmp s2) ?_
      have hl19 : decide (b.ps.length = 8) = true := by exact decide_eq_true (by omega)
      have hl20 : decide (b.ls.length ≤ 8) = true := by exact decide_eq_true (by omega)
      exact ⟨by unfold boOk; simp only [hc6, hl19, hl20, hc13, hc17, Bool.and_true, Bool.true_and, Bool.and_false, Bool.false_and, Bool.or_true, Bool.true_or, Bool.or_false, Bool.false_or, Bool.not_true, Bool.not_false, Bool.and_self], hB⟩
    have htk_taken := inB_true hc17
    have s35 : a28.eval (.tmp 35) = .bool true := (p28.v).trans (congrArg Value.bool hc17)
    have s36 : a29.eval (.tmp 36) = .bool false := (p29.v).trans (congrArg (fun b => Value.bool (!b)) hc17)
    replace s37 : a30.eval (.tmp 37) = .bool false := (s37).trans (congrArg (fun b => Value.bool (!b)) hc17)
    have s38 : a31.eval (.tmp 38) = .bool false := (p31.v).trans (congrArg (fun b => Value.bool (!b)) hc17)
    refine q_t p31.s rfl rfl s38 rfl rfl (g_field (r := 5) rfl (p31.k (p30.k (p29.k (p28.k (p27.k (p26.k (p25.k (p24.k (p23.k (p22.k (p21.k (p20.k (p19.k (p18.k (p17.k (p16.k (p15.k (p14.k (p13.k (p12.k (p11.k (p10.k (p9.k (p8.k (p7.k (p6.k (p5.k (p4.k (p3.k s1 rfl) rfl) rfl) rfl) rfl) rfl) rfl) rfl) rfl) rfl) rfl) rfl) rfl) rfl) rfl) rfl) rfl) rfl) rfl) rfl) rfl) rfl) rfl) rfl) rfl) rfl) rfl) rfl) rfl) Try.underlying32 rfl (fun w => Try.sizeOf27 w) rfl rfl ?_)
    intro a32 p32
    refine q_t p32.s rfl rfl (p32.k s38 rfl) rfl rfl (g_load rfl p32.v Try.isAgg27 (box_cell h_q2 rfl) ?_)
    intro a33 p33
    refine q_t p33.s rfl rfl (p33.k (p32.k s38 rfl) rfl) rfl rfl (g_len (e := _) rfl Try.underlying27 p33.v ?_)
    intro a34 p34
    refine q_t p34.s rfl rfl (p34.k (p33.k (p32.k s38 rfl) rfl) rfl) rfl rfl (g_gtr rfl p34.v rfl ?_)
    intro a35 p35
    refine q_v p35.s rfl rfl rfl (g_pick_f rfl (p35.k (p34.k (p33.k (p32.k s38 rfl) rfl) rfl) rfl) p35.v ?_)
    intro a36 p36
    have s43 : a36.eval (.tmp 43) = .bool (decide (5000 < ((b.ds.length : Nat) : Int))) := p36.v
    refine q_v p36.s rfl rfl rfl (g_move rfl s43 ?_)
    intro a37 p37
    by_cases hc21 : 5000 < ((b.ds.length : Nat) : Int)
    · have s42 : a35.eval (.tmp 42) = .bool true := (p35.v).trans (congrArg Value.bool (decide_eq_true hc21))
      replace s43 : a36.eval (.tmp 43) = .bool true := (s43).trans (congrArg Value.bool (decide_eq_true hc21))
      have s44 : a37.eval (.tmp 44) = .bool true := (p37.v).trans (congrArg Value.bool (decide_eq_true hc21))
      refine q_s p37.s rfl rfl s44 rfl rfl ?_
      intro a38 p38
      refine q_s p38.s rfl rfl (p38.k s44 rfl) rfl rfl ?_
      intro a39 p39
      refine q_s p39.s rfl rfl (p39.k (p38.k s44 rfl) rfl) rfl rfl ?_
      intro a40 p40
      refine q_s p40.s rfl rfl (p40.k (p39.k (p38.k s44 rfl) rfl) rfl) rfl rfl ?_
      intro a41 p41
      refine q_v p41.s rfl rfl rfl (g_pick_t rfl (p41.k (p40.k (p39.k (p38.k s44 rfl) rfl) rfl) rfl) rfl ?_)
      intro a42 p42
      have s49 : a42.eval (.tmp 49) = .bool true := p42.v
      refine q_v p42.s rfl rfl rfl (g_move rfl s49 ?_)
      intro a43 p43
      refine q_s p43.s rfl rfl p43.v rfl rfl ?_
      intro a44 p44
      refine q_s p44.s rfl rfl (p44.k p43.v rfl) rfl rfl ?_
      intro a45 p45
      refine q_s p45.s rfl rfl (p45.k (p44.k p43.v rfl) rfl) rfl rfl ?_
      intro a46 p46
      refine q_s p46.s rfl rfl (p46.k (p45.k (p44.k p43.v rfl) rfl) rfl) rfl rfl ?_
      intro a47 p47
      refine q_v p47.s rfl rfl rfl (g_pick_t rfl (p47.k (p46.k (p45.k (p44.k p43.v rfl) rfl) rfl) rfl) rfl ?_)
      intro a48 p48
      have s55 : a48.eval (.tmp 55) = .bool true := p48.v
      refine q_v p48.s rfl rfl rfl (g_move rfl s55 ?_)
      intro a49 p49
      refine q_s p49.s rfl rfl p49.v rfl rfl ?_
      intro a50 p50
      refine q_s p50.s rfl rfl (p50.k p49.v rfl) rfl rfl ?_
      intro a51 p51
      refine q_s p51.s rfl rfl (p51.k (p50.k p49.v rfl) rfl) rfl rfl ?_
      intro a52 p52
      refine q_v p52.s rfl rfl rfl (g_pick_t rfl (p52.k (p51.k (p50.k p49.v rfl) rfl) rfl) rfl ?_)
      intro a53 p53
      have s60 : a53.eval (.tmp 60) = .bool true := p53.v
      refine wpList_nil ?_
      have kc2 := (((((((((((((((((((((((((((((((((((((((((((((((((((Kps.nil a2).u p3).u p4).u p5).u p6).u p7).u p8).u p9).u p10).u p11).u p12).u p13).u p14).u p15).u p16).u p17).u p18).u p19).u p20).u p21).u p22).u p23).u p24).u p25).u p26).u p27).u p28).u p29).u p30).u p31).u p32).u p33).u p34).u p35).u p36).u p37).u p38).u p39).u p40).u p41).u p42).u p43).u p44).u p45).u p46).u p47).u p48).u p49).u p50).u p51).u p52).u p53
      replace s1 := kc2.k s1 rfl
      replace s2 := kc2.k s2 rfl
      clear kc2
      refine hK5 _ _ ?_
      clear hK5
      refine c_true s60 ?_
      refine wp_seq_k fun K22 hK22 => ?_
      refine wp_region_lit ?_
      refine q_v p53.s rfl rfl rfl (g_assign rfl rfl ?_)
      intro a54 p54
      have s2 : a54.eval (.tmp 2) = .bool false := p54.v
      refine wpList_nil ?_
      replace s1 := p54.k s1 rfl
      refine hK22 _ _ ?_
      clear hK22
      refine wp_ret ?_
      try dsimp only [Exit.then, Exit.inBlock]
      refine ret1 p54.s Try.results23 (res_tmp s2) ?_
      have hl23 : decide (b.ps.length = 8) = true := by exact decide_eq_true (by omega)
      have hl24 : decide (b.ls.length ≤ 8) = true := by exact decide_eq_true (by omega)
      have hl25 : decide (b.ds.length ≤ 5000) = false := by exact decide_eq_false (by omega)
      exact ⟨by unfold boOk; simp only [hc6, hl23, hl24, hc13, hc17, hl25, Bool.and_true, Bool.true_and, Bool.and_false, Bool.false_and, Bool.or_true, Bool.true_or, Bool.or_false, Bool.false_or, Bool.not_true, Bool.not_false, Bool.and_self], hB⟩
    have s42 : a35.eval (.tmp 42) = .bool false := (p35.v).trans (congrArg Value.bool (decide_eq_false hc21))
    replace s43 : a36.eval (.tmp 43) = .bool false := (s43).trans (congrArg Value.bool (decide_eq_false hc21))
    have s44 : a37.eval (.tmp 44) = .bool false := (p37.v).trans (congrArg Value.bool (decide_eq_false hc21))
    refine q_t p37.s rfl rfl s44 rfl rfl (g_field (r := 11) rfl (p37.k (p36.k (p35.k (p34.k (p33.k (p32.k (p31.k (p30.k (p29.k (p28.k (p27.k (p26.k (p25.k (p24.k (p23.k (p22.k (p21.k (p20.k (p19.k (p18.k (p17.k (p16.k (p15.k (p14.k (p13.k (p12.k (p11.k (p10.k (p9.k (p8.k (p7.k (p6.k (p5.k (p4.k (p3.k s1 rfl) rfl) rfl) rfl) rfl) rfl) rfl) rfl) rfl) rfl) rfl) rfl) rfl) rfl) rfl) rfl) rfl) rfl) rfl) rfl) rfl) rfl) rfl) rfl) rfl) rfl) rfl) rfl) rfl) rfl) rfl) rfl) rfl) rfl) rfl) Try.underlying32 rfl (fun w => Try.sizeOf24 w) rfl rfl ?_)
    intro a38 p38
    refine q_t p38.s rfl rfl (p38.k s44 rfl) rfl rfl (g_load rfl p38.v Try.isAgg24 (box_cell h_q2 rfl) ?_)
    intro a39 p39
    refine q_t p39.s rfl rfl (p39.k (p38.k s44 rfl) rfl) rfl rfl (g_len (e := _) rfl Try.underlying24 p39.v ?_)
    intro a40 p40
    refine q_t p40.s rfl rfl (p40.k (p39.k (p38.k s44 rfl) rfl) rfl) rfl rfl (g_gtr rfl p40.v rfl ?_)
    intro a41 p41
    refine q_v p41.s rfl rfl rfl (g_pick_f rfl (p41.k (p40.k (p39.k (p38.k s44 rfl) rfl) rfl) rfl) p41.v ?_)
    intro a42 p42
    have s49 : a42.eval (.tmp 49) = .bool (decide (5000 < ((b.qs.length : Nat) : Int))) := p42.v
    refine q_v p42.s rfl rfl rfl (g_move rfl s49 ?_)
    intro a43 p43
    by_cases hc26 : 5000 < ((b.qs.length : Nat) : Int)
    · have s48 : a41.eval (.tmp 48) = .bool true := (p41.v).trans (congrArg Value.bool (decide_eq_true hc26))
      replace s49 : a42.eval (.tmp 49) = .bool true := (s49).trans (congrArg Value.bool (decide_eq_true hc26))
      have s50 : a43.eval (.tmp 50) = .bool true := (p43.v).trans (congrArg Value.bool (decide_eq_true hc26))
      refine q_s p43.s rfl rfl s50 rfl rfl ?_
      intro a44 p44
      refine q_s p44.s rfl rfl (p44.k s50 rfl) rfl rfl ?_
      intro a45 p45
      refine q_s p45.s rfl rfl (p45.k (p44.k s50 rfl) rfl) rfl rfl ?_
      intro a46 p46
      refine q_s p46.s rfl rfl (p46.k (p45.k (p44.k s50 rfl) rfl) rfl) rfl rfl ?_
      intro a47 p47
      refine q_v p47.s rfl rfl rfl (g_pick_t rfl (p47.k (p46.k (p45.k (p44.k s50 rfl) rfl) rfl) rfl) rfl ?_)
      intro a48 p48
      have s55 : a48.eval (.tmp 55) = .bool true := p48.v
      refine q_v p48.s rfl rfl rfl (g_move rfl s55 ?_)
      intro a49 p49
      refine q_s p49.s rfl rfl p49.v rfl rfl ?_
      intro a50 p50
      refine q_s p50.s rfl rfl (p50.k p49.v rfl) rfl rfl ?_
      intro a51 p51
      refine q_s p51.s rfl rfl (p51.k (p50.k p49.v rfl) rfl) rfl rfl ?_
      intro a52 p52
      refine q_v p52.s rfl rfl rfl (g_pick_t rfl (p52.k (p51.k (p50.k p49.v rfl) rfl) rfl) rfl ?_)
      intro a53 p53
      have s60 : a53.eval (.tmp 60) = .bool true := p53.v
      refine wpList_nil ?_
      have kc2 := (((((((((((((((((((((((((((((((((((((((((((((((((((Kps.nil a2).u p3).u p4).u p5).u p6).u p7).u p8).u p9).u p10).u p11).u p12).u p13).u p14).u p15).u p16).u p17).u p18).u p19).u p20).u p21).u p22).u p23).u p24).u p25).u p26).u p27).u p28).u p29).u p30).u p31).u p32).u p33).u p34).u p35).u p36).u p37).u p38).u p39).u p40).u p41).u p42).u p43).u p44).u p45).u p46).u p47).u p48).u p49).u p50).u p51).u p52).u p53
      replace s1 := kc2.k s1 rfl
      replace s2 := kc2.k s2 rfl
      clear kc2
      refine hK5 _ _ ?_
      clear hK5
      refine c_true s60 ?_
      refine wp_seq_k fun K27 hK27 => ?_
      refine wp_region_lit ?_
      refine q_v p53.s rfl rfl rfl (g_assign rfl rfl ?_)
      intro a54 p54
      have s2 : a54.eval (.tmp 2) = .bool false := p54.v
      refine wpList_nil ?_
      replace s1 := p54.k s1 rfl
      refine hK27 _ _ ?_
      clear hK27
      refine wp_ret ?_
      try dsimp only [Exit.then, Exit.inBlock]
      refine ret1 p54.s Try.results23 (res_tmp s2) ?_
      have hl28 : decide (b.ps.length = 8) = true := by exact decide_eq_true (by omega)
      have hl29 : decide (b.ls.length ≤ 8) = true := by exact decide_eq_true (by omega)
      have hl30 : decide (b.ds.length ≤ 5000) = true := by exact decide_eq_true (by omega)
      have hl31 : decide (b.qs.length ≤ 5000) = false := by exact decide_eq_false (by omega)
      exact ⟨by unfold boOk; simp only [hc6, hl28, hl29, hc13, hc17, hl30, hl31, Bool.and_true, Bool.true_and, Bool.and_false, Bool.false_and, Bool.or_true, Bool.true_or, Bool.or_false, Bool.false_or, Bool.not_true, Bool.not_false, Bool.and_self], hB⟩
    have s48 : a41.eval (.tmp 48) = .bool false := (p41.v).trans (congrArg Value.bool (decide_eq_false hc26))
    replace s49 : a42.eval (.tmp 49) = .bool false := (s49).trans (congrArg Value.bool (decide_eq_false hc26))
    have s50 : a43.eval (.tmp 50) = .bool false := (p43.v).trans (congrArg Value.bool (decide_eq_false hc26))
    refine q_t p43.s rfl rfl s50 rfl rfl (g_field (r := 6) rfl (p43.k (p42.k (p41.k (p40.k (p39.k (p38.k (p37.k (p36.k (p35.k (p34.k (p33.k (p32.k (p31.k (p30.k (p29.k (p28.k (p27.k (p26.k (p25.k (p24.k (p23.k (p22.k (p21.k (p20.k (p19.k (p18.k (p17.k (p16.k (p15.k (p14.k (p13.k (p12.k (p11.k (p10.k (p9.k (p8.k (p7.k (p6.k (p5.k (p4.k (p3.k s1 rfl) rfl) rfl) rfl) rfl) rfl) rfl) rfl) rfl) rfl) rfl) rfl) rfl) rfl) rfl) rfl) rfl) rfl) rfl) rfl) rfl) rfl) rfl) rfl) rfl) rfl) rfl) rfl) rfl) rfl) rfl) rfl) rfl) rfl) rfl) rfl) rfl) rfl) rfl) rfl) rfl) Try.underlying32 rfl (fun w => Try.sizeOf30 w) rfl rfl ?_)
    intro a44 p44
    refine q_t p44.s rfl rfl (p44.k s50 rfl) rfl rfl (g_loadA (l := [.int .i64 b.room, .slice rA b.rs.length rc, .slice xA b.xs.length xc]) rfl p44.v Try.isAgg30 Try.sizeOf30 rfl (box_part h_q2 rfl) ?_)
    intro a45 p45
    refine q_t p45.s rfl rfl (p45.k (p44.k s50 rfl) rfl) rfl rfl ?_
    refine g_call rfl rfl Try.call59 (arr1 p45.v) ?_
    refine (sRecorderOk_any _ _ _ _ _ _ _ b.rs b.xs _ rfl (by omega) hW.tx (hr_r.below hB) rfl (by omega) (hr_x.below hB)).mono ?_
    rintro e w33 ⟨rfl, hb32⟩
    refine ⟨_, rfl, ?_⟩
    replace h_q2 := keep_below h_q2 hb32
    replace hB := hB.trans (hb32.mono hB.size)
    clear hb32
    intro a46 p46
    refine q_t p46.s rfl rfl (p46.k (p45.k (p44.k s50 rfl) rfl) rfl) rfl rfl (g_not rfl p46.v ?_)
    intro a47 p47
    refine q_v p47.s rfl rfl rfl (g_pick_f rfl (p47.k (p46.k (p45.k (p44.k s50 rfl) rfl) rfl) rfl) p47.v ?_)
    intro a48 p48
    have s55 : a48.eval (.tmp 55) = .bool (!(rcOk b.room b.rs b.xs)) := p48.v
    refine q_v p48.s rfl rfl rfl (g_move rfl s55 ?_)
    intro a49 p49
    cases hc34 : rcOk b.room b.rs b.xs
    · have s53 : a46.eval (.tmp 53) = .bool false := (p46.v).trans (congrArg Value.bool hc34)
      have s54 : a47.eval (.tmp 54) = .bool true := (p47.v).trans (congrArg (fun b => Value.bool (!b)) hc34)
      replace s55 : a48.eval (.tmp 55) = .bool true := (s55).trans (congrArg (fun b => Value.bool (!b)) hc34)
      have s56 : a49.eval (.tmp 56) = .bool true := (p49.v).trans (congrArg (fun b => Value.bool (!b)) hc34)
      refine q_s p49.s rfl rfl s56 rfl rfl ?_
      intro a50 p50
      refine q_s p50.s rfl rfl (p50.k s56 rfl) rfl rfl ?_
      intro a51 p51
      refine q_s p51.s rfl rfl (p51.k (p50.k s56 rfl) rfl) rfl rfl ?_
      intro a52 p52
      refine q_v p52.s rfl rfl rfl (g_pick_t rfl (p52.k (p51.k (p50.k s56 rfl) rfl) rfl) rfl ?_)
      intro a53 p53
      have s60 : a53.eval (.tmp 60) = .bool true := p53.v
      refine wpList_nil ?_
      have kc2 := (((((((((((((((((((((((((((((((((((((((((((((((((((Kps.nil a2).u p3).u p4).u p5).u p6).u p7).u p8).u p9).u p10).u p11).u p12).u p13).u p14).u p15).u p16).u p17).u p18).u p19).u p20).u p21).u p22).u p23).u p24).u p25).u p26).u p27).u p28).u p29).u p30).u p31).u p32).u p33).u p34).u p35).u p36).u p37).u p38).u p39).u p40).u p41).u p42).u p43).u p44).u p45).u p46).u p47).u p48).u p49).u p50).u p51).u p52).u p53
      replace s1 := kc2.k s1 rfl
      replace s2 := kc2.k s2 rfl
      clear kc2
      refine hK5 _ _ ?_
      clear hK5
      refine c_true s60 ?_
      refine wp_seq_k fun K35 hK35 => ?_
      refine wp_region_lit ?_
      refine q_v p53.s rfl rfl rfl (g_assign rfl rfl ?_)
      intro a54 p54
      have s2 : a54.eval (.tmp 2) = .bool false := p54.v
      refine wpList_nil ?_
      replace s1 := p54.k s1 rfl
      refine hK35 _ _ ?_
      clear hK35
      refine wp_ret ?_
      try dsimp only [Exit.then, Exit.inBlock]
      refine ret1 p54.s Try.results23 (res_tmp s2) ?_
      have hl36 : decide (b.ps.length = 8) = true := by exact decide_eq_true (by omega)
      have hl37 : decide (b.ls.length ≤ 8) = true := by exact decide_eq_true (by omega)
      have hl38 : decide (b.ds.length ≤ 5000) = true := by exact decide_eq_true (by omega)
      have hl39 : decide (b.qs.length ≤ 5000) = true := by exact decide_eq_true (by omega)
      exact ⟨by unfold boOk; simp only [hc6, hl36, hl37, hc13, hc17, hl38, hl39, hc34, Bool.and_true, Bool.true_and, Bool.and_false, Bool.false_and, Bool.or_true, Bool.true_or, Bool.or_false, Bool.false_or, Bool.not_true, Bool.not_false, Bool.and_self], hB⟩
    have s53 : a46.eval (.tmp 53) = .bool true := (p46.v).trans (congrArg Value.bool hc34)
    have s54 : a47.eval (.tmp 54) = .bool false := (p47.v).trans (congrArg (fun b => Value.bool (!b)) hc34)
    replace s55 : a48.eval (.tmp 55) = .bool false := (s55).trans (congrArg (fun b => Value.bool (!b)) hc34)
    have s56 : a49.eval (.tmp 56) = .bool false := (p49.v).trans (congrArg (fun b => Value.bool (!b)) hc34)
    refine q_t p49.s rfl rfl s56 rfl rfl (g_loadB rfl (p49.k (p48.k (p47.k (p46.k (p45.k (p44.k (p43.k (p42.k (p41.k (p40.k (p39.k (p38.k (p37.k (p36.k (p35.k (p34.k (p33.k (p32.k (p31.k (p30.k (p29.k (p28.k (p27.k (p26.k (p25.k (p24.k (p23.k (p22.k (p21.k (p20.k (p19.k (p18.k (p17.k (p16.k (p15.k (p14.k (p13.k (p12.k (p11.k (p10.k (p9.k (p8.k (p7.k (p6.k (p5.k (p4.k (p3.k s1 rfl) rfl) rfl) rfl) rfl) rfl) rfl) rfl) rfl) rfl) rfl) rfl) rfl) rfl) rfl) rfl) rfl) rfl) rfl) rfl) rfl) rfl) rfl) rfl) rfl) rfl) rfl) rfl) rfl) rfl) rfl) rfl) rfl) rfl) rfl) rfl) rfl) rfl) rfl) rfl) rfl) rfl) rfl) rfl) rfl) rfl) rfl) Try.isAgg32 Try.sizeOf32 rfl h_q2 ?_)
    intro a50 p50
    refine q_t p50.s rfl rfl (p50.k s56 rfl) rfl rfl ?_
    refine g_call rfl rfl Try.call60 (arr1 p50.v) ?_
    refine (l05Orders_any (S := (⟨⟨pA, b.ps.length, pc⟩, ⟨lA, b.ls.length, lc⟩, ⟨oA, b.os.length, oc⟩, ⟨dA, b.ds.length, dc⟩, ⟨rA, b.rs.length, rc⟩, ⟨xA, b.xs.length, xc⟩, ⟨qA, b.qs.length, qc⟩⟩ : BSl)) (b := b) _ ⟨⟨(hr_p.below hB), rfl, hnn_p, hnc_p⟩, ⟨(hr_l.below hB), rfl, hnn_l, hnc_l⟩, ⟨(hr_o.below hB), rfl, hnn_o, hnc_o⟩, ⟨(hr_d.below hB), rfl, hnn_d, hnc_d⟩, ⟨(hr_r.below hB), rfl, hnn_r, hnc_r⟩, ⟨(hr_x.below hB), rfl, hnn_x, hnc_x⟩, ⟨(hr_q.below hB), rfl, hnn_q, hnc_q⟩⟩ hW (by omega) (by omega)).mono ?_
    rintro e w41 ⟨rfl, hb40⟩
    refine ⟨_, rfl, ?_⟩
    replace h_q2 := keep_below h_q2 hb40
    replace hB := hB.trans (hb40.mono hB.size)
    clear hb40
    intro a51 p51
    refine q_t p51.s rfl rfl (p51.k (p50.k s56 rfl) rfl) rfl rfl (g_not rfl p51.v ?_)
    intro a52 p52
    refine q_v p52.s rfl rfl rfl (g_pick_f rfl (p52.k (p51.k (p50.k s56 rfl) rfl) rfl) p52.v ?_)
    intro a53 p53
    have s60 : a53.eval (.tmp 60) = .bool (!(osOk b.taken b.os)) := p53.v
    refine wpList_nil ?_
    have kc2 := (((((((((((((((((((((((((((((((((((((((((((((((((((Kps.nil a2).u p3).u p4).u p5).u p6).u p7).u p8).u p9).u p10).u p11).u p12).u p13).u p14).u p15).u p16).u p17).u p18).u p19).u p20).u p21).u p22).u p23).u p24).u p25).u p26).u p27).u p28).u p29).u p30).u p31).u p32).u p33).u p34).u p35).u p36).u p37).u p38).u p39).u p40).u p41).u p42).u p43).u p44).u p45).u p46).u p47).u p48).u p49).u p50).u p51).u p52).u p53
    replace s1 := kc2.k s1 rfl
    replace s2 := kc2.k s2 rfl
    clear kc2
    refine hK5 _ _ ?_
    clear hK5
    cases hc42 : osOk b.taken b.os
    · replace s60 : a53.eval (.tmp 60) = .bool true := (s60).trans (congrArg (fun b => Value.bool (!b)) hc42)
      refine c_true s60 ?_
      refine wp_seq_k fun K43 hK43 => ?_
      refine wp_region_lit ?_
      refine q_v p53.s rfl rfl rfl (g_assign rfl rfl ?_)
      intro a54 p54
      have s2 : a54.eval (.tmp 2) = .bool false := p54.v
      refine wpList_nil ?_
      replace s1 := p54.k s1 rfl
      refine hK43 _ _ ?_
      clear hK43
      refine wp_ret ?_
      try dsimp only [Exit.then, Exit.inBlock]
      refine ret1 p54.s Try.results23 (res_tmp s2) ?_
      have hl44 : decide (b.ps.length = 8) = true := by exact decide_eq_true (by omega)
      have hl45 : decide (b.ls.length ≤ 8) = true := by exact decide_eq_true (by omega)
      have hl46 : decide (b.ds.length ≤ 5000) = true := by exact decide_eq_true (by omega)
      have hl47 : decide (b.qs.length ≤ 5000) = true := by exact decide_eq_true (by omega)
      exact ⟨by unfold boOk; simp only [hc6, hl44, hl45, hc13, hc17, hl46, hl47, hc34, hc42, Bool.and_true, Bool.true_and, Bool.and_false, Bool.false_and, Bool.or_true, Bool.true_or, Bool.or_false, Bool.false_or, Bool.not_true, Bool.not_false, Bool.and_self], hB⟩
    replace s60 : a53.eval (.tmp 60) = .bool false := (s60).trans (congrArg (fun b => Value.bool (!b)) hc42)
    refine c_false s60 ?_
    refine wp_skip ?_
    refine hK4 _ _ ?_
    clear hK4
    refine wp_seq_k fun K48 hK48 => ?_
    refine wp_seq_k fun K49 hK49 => ?_
    refine wp_region_lit ?_
    refine q_v p53.s rfl rfl rfl (g_assign rfl rfl ?_)
    intro a54 p54
    have s3 : a54.eval (.tmp 3) = .int .i64 0 := p54.v
    refine wpList_nil ?_
    replace s1 := p54.k s1 rfl
    replace s2 := p54.k s2 rfl
    refine hK49 _ _ ?_
    clear hK49
    refine wp_block ?_
    refine wp_loop (fun a wr => ∃ (k : Nat), (St 166 a) ∧ (a.eval (.tmp 1) = .pointer (some ⟨q2, 0, none⟩)) ∧ (a.eval (.tmp 2) = .bool false) ∧ (a.eval (.tmp 3) = .int .i64 ((k : Nat) : Int)) ∧ (Below w.heap.size w wr) ∧ (wr.heap[q2]? = some (.cells #[.int .i64 b.clk, .slice pA b.ps.length pc, .bool b.safe, .slice lA b.ls.length lc, .slice oA b.os.length oc, .slice dA b.ds.length dc, .int .i64 b.room, .slice rA b.rs.length rc, .slice xA b.xs.length xc, .int .i64 b.made, .int .i64 b.taken, .slice qA b.qs.length qc] 32 (0, 0))) ∧ (k ≤ b.ps.length) ∧ ((b.ps.take k).all (fun n => inB n 0 65535) = true)) (fun a _ => b.ps.length - (intOf (a.eval (.tmp 3))).toNat) (⟨0, p54.s, s1, s2, s3, hB, h_q2, Nat.zero_le _, rfl⟩) ?_
    intro a55 w51 hIv
    obtain ⟨k, hs, s1, s2, s3, hB, h_q2, hk, hst⟩ := hIv
    have mu52 := s3
    refine wp_seq_k fun K53 hK53 => ?_
    refine wp_seq_k fun K54 hK54 => ?_
    refine wp_region_lit ?_
    refine q_v hs rfl rfl rfl (g_move rfl s3 ?_)
    intro a56 p56
    refine q_v p56.s rfl rfl rfl (g_field (r := 1) rfl (p56.k s1 rfl) Try.underlying32 rfl (fun w => Try.sizeOf24 w) rfl rfl ?_)
    intro a57 p57
    refine q_v p57.s rfl rfl rfl (g_load rfl p57.v Try.isAgg24 (box_cell h_q2 rfl) ?_)
    intro a58 p58
    refine q_v p58.s rfl rfl rfl (g_len (e := _) rfl Try.underlying24 p58.v ?_)
    intro a59 p59
    refine q_v p59.s rfl rfl rfl (g_lss rfl (p59.k (p58.k (p57.k p56.v rfl) rfl) rfl) p59.v ?_)
    intro a60 p60
    refine wpList_nil ?_
    have kc55 := (((((Kps.nil a55).u p56).u p57).u p58).u p59).u p60
    replace s1 := kc55.k s1 rfl
    replace s2 := kc55.k s2 rfl
    replace s3 := kc55.k s3 rfl
    replace s65 := p60.v
    clear kc55
    refine hK54 _ _ ?_
    clear hK54
    by_cases hc55 : ((k : Nat) : Int) < ((b.ps.length : Nat) : Int)
    · replace s65 : a60.eval (.tmp 65) = .bool true := (s65).trans (congrArg Value.bool (decide_eq_true hc55))
      refine c_true s65 ?_
      refine wp_skip ?_
      refine hK53 _ _ ?_
      clear hK53
      refine wp_seq_k fun K56 hK56 => ?_
      refine wp_block ?_
      refine wp_seq_k fun K57 hK57 => ?_
      have hlt : k < b.ps.length := by omega
      refine wp_region_lit ?_
      refine q_v p60.s rfl rfl rfl (g_field (r := 1) rfl s1 Try.underlying32 rfl (fun w => Try.sizeOf24 w) rfl rfl ?_)
      intro a61 p61
      refine q_v p61.s rfl rfl rfl (g_load rfl p61.v Try.isAgg24 (box_cell h_q2 rfl) ?_)
      intro a62 p62
      refine q_v p62.s rfl rfl rfl (g_move rfl (p62.k (p61.k s3 rfl) rfl) ?_)
      intro a63 p63
      obtain ⟨b58, o59, hA60, hl_hc61, hc61⟩ := Rd.get cI_len (hr_p.below hB) rfl (i := k) (by omega)
      refine q_v p63.s rfl rfl rfl (g_index (r := o59 + k * 1) (k := k) rfl ((p63.k p62.v rfl).trans (slice_at hA60)) p63.v Try.underlying24 (fun w => Try.sizeOf3 w) (by omega) rfl ?_)
      intro a64 p64
      refine q_v p64.s rfl rfl rfl (g_load rfl p64.v Try.isAgg3 (by first | exact hc61 0 _ (by decide) rfl | (rw [Nat.add_assoc]; exact hc61 0 _ (by decide) rfl)) ?_)
      intro a65 p65
      refine q_v p65.s rfl rfl rfl ?_
      refine g_call rfl rfl Try.call58 (arr3 p65.v rfl rfl) ?_
      refine (l01In_any _ _ _ _).mono ?_
      rintro e w' ⟨rfl, rfl⟩
      refine ⟨_, rfl, ?_⟩
      intro a66 p66
      refine q_v p66.s rfl rfl rfl (g_not rfl p66.v ?_)
      intro a67 p67
      refine wpList_nil ?_
      have kc60 := (((((((Kps.nil a60).u p61).u p62).u p63).u p64).u p65).u p66).u p67
      replace s1 := kc60.k s1 rfl
      replace s2 := kc60.k s2 rfl
      replace s3 := kc60.k s3 rfl
      replace s65 := kc60.k s65 rfl
      replace s74 := p67.v
      clear kc60
      refine hK57 _ _ ?_
      clear hK57
      cases hc62 : inB b.ps[k] 0 65535
      · replace s74 : a67.eval (.tmp 74) = .bool true := (s74).trans (congrArg (fun b => Value.bool (!b)) hc62)
        refine c_true s74 ?_
        refine wp_seq_k fun K63 hK63 => ?_
        refine wp_region_lit ?_
        refine q_v p67.s rfl rfl rfl (g_assign rfl rfl ?_)
        intro a68 p68
        have s2 : a68.eval (.tmp 2) = .bool false := p68.v
        refine wpList_nil ?_
        replace s1 := p68.k s1 rfl
        replace s3 := p68.k s3 rfl
        replace s65 := p68.k s65 rfl
        replace s74 := p68.k s74 rfl
        refine hK63 _ _ ?_
        clear hK63
        refine wp_ret ?_
        try dsimp only [Exit.then, Exit.inBlock]
        refine ret1 p68.s Try.results23 (res_tmp s2) ?_
        have hl64 : decide (b.ps.length = 8) = true := by exact decide_eq_true (by omega)
        have hl65 : decide (b.ls.length ≤ 8) = true := by exact decide_eq_true (by omega)
        have hl66 : decide (b.ds.length ≤ 5000) = true := by exact decide_eq_true (by omega)
        have hl67 : decide (b.qs.length ≤ 5000) = true := by exact decide_eq_true (by omega)
        have hat : (fun n => inB n 0 65535) b.ps[k] = false := by skip; simp only [hc62, Bool.and_true, Bool.true_and, Bool.and_false, Bool.false_and, Bool.or_true, Bool.true_or, Bool.or_false, Bool.false_or, Bool.not_true, Bool.not_false, Bool.and_self]
        have hx68 : allB b.ps 0 65535 = false := all_fail (P := fun n => inB n 0 65535) hlt hat
        exact ⟨by unfold boOk; simp only [hc6, hl64, hl65, hc13, hc17, hl66, hl67, hc34, hc42, hx68, Bool.and_true, Bool.true_and, Bool.and_false, Bool.false_and, Bool.or_true, Bool.true_or, Bool.or_false, Bool.false_or, Bool.not_true, Bool.not_false, Bool.and_self], hB⟩
      replace s74 : a67.eval (.tmp 74) = .bool false := (s74).trans (congrArg (fun b => Value.bool (!b)) hc62)
      refine c_false s74 ?_
      refine wp_skip ?_
      refine hK56 _ _ ?_
      clear hK56
      refine wp_region_lit ?_
      refine q_v p67.s rfl rfl rfl (g_move rfl s3 ?_)
      intro a68 p68
      refine q_v p68.s rfl rfl rfl (g_add (r := ((k + 1 : Nat) : Int)) rfl p68.v rfl (by omega) (by omega) ?_)
      intro a69 p69
      refine q_v p69.s rfl rfl rfl (g_assign rfl p69.v ?_)
      intro a70 p70
      refine wpList_nil ?_
      have kc67 := (((Kps.nil a67).u p68).u p69).u p70
      replace s1 := kc67.k s1 rfl
      replace s2 := kc67.k s2 rfl
      replace s3 := p70.v
      replace s65 := kc67.k s65 rfl
      replace s74 := kc67.k s74 rfl
      clear kc67
      have hat : (fun n => inB n 0 65535) b.ps[k] = true := by skip; simp only [hc6, decide_eq_true hc8, decide_eq_false hc9, hc13, hc17, decide_eq_false hc21, decide_eq_false hc26, hc34, hc42, decide_eq_true hc55, hc62, Bool.and_true, Bool.true_and, Bool.and_false, Bool.false_and, Bool.or_true, Bool.true_or, Bool.or_false, Bool.false_or, Bool.not_true, Bool.not_false, Bool.and_self]
      refine show _ ∧ _ from ⟨⟨k + 1, p70.s, s1, s2, s3, hB, h_q2, (by omega), (all_step hlt hst hat)⟩, ?_⟩
      show b.ps.length - (intOf (a70.eval (.tmp 3))).toNat < b.ps.length - (intOf (a55.eval (.tmp 3))).toNat
      rw [s3, mu52]
      simp only [intOf]
      omega
    replace s65 : a60.eval (.tmp 65) = .bool false := (s65).trans (congrArg Value.bool (decide_eq_false hc55))
    refine c_false s65 ?_
    refine wp_exit ?_
    refine hK48 _ _ ?_
    clear hK48
    refine wp_seq_k fun K69 hK69 => ?_
    refine wp_seq_k fun K70 hK70 => ?_
    have hps : allB b.ps 0 65535 = true := all_done (by omega) hst
    refine wp_region_lit ?_
    refine q_v p60.s rfl rfl rfl (g_assign rfl rfl ?_)
    intro a61 p61
    have s4 : a61.eval (.tmp 4) = .int .i64 0 := p61.v
    refine wpList_nil ?_
    replace s1 := p61.k s1 rfl
    replace s2 := p61.k s2 rfl
    refine hK70 _ _ ?_
    clear hK70
    refine wp_block ?_
    refine wp_loop (fun a wr => ∃ (k : Nat), (St 166 a) ∧ (a.eval (.tmp 1) = .pointer (some ⟨q2, 0, none⟩)) ∧ (a.eval (.tmp 2) = .bool false) ∧ (a.eval (.tmp 4) = .int .i64 ((k : Nat) : Int)) ∧ (Below w.heap.size w wr) ∧ (wr.heap[q2]? = some (.cells #[.int .i64 b.clk, .slice pA b.ps.length pc, .bool b.safe, .slice lA b.ls.length lc, .slice oA b.os.length oc, .slice dA b.ds.length dc, .int .i64 b.room, .slice rA b.rs.length rc, .slice xA b.xs.length xc, .int .i64 b.made, .int .i64 b.taken, .slice qA b.qs.length qc] 32 (0, 0))) ∧ (k ≤ b.ls.length) ∧ ((b.ls.take k).all (limOk) = true)) (fun a _ => b.ls.length - (intOf (a.eval (.tmp 4))).toNat) (⟨0, p61.s, s1, s2, s4, hB, h_q2, Nat.zero_le _, rfl⟩) ?_
    intro a62 w72 hIv
    obtain ⟨k, hs, s1, s2, s4, hB, h_q2, hk, hst⟩ := hIv
    have mu73 := s4
    refine wp_seq_k fun K74 hK74 => ?_
    refine wp_seq_k fun K75 hK75 => ?_
    refine wp_region_lit ?_
    refine q_v hs rfl rfl rfl (g_move rfl s4 ?_)
    intro a63 p63
    refine q_v p63.s rfl rfl rfl (g_field (r := 3) rfl (p63.k s1 rfl) Try.underlying32 rfl (fun w => Try.sizeOf25 w) rfl rfl ?_)
    intro a64 p64
    refine q_v p64.s rfl rfl rfl (g_load rfl p64.v Try.isAgg25 (box_cell h_q2 rfl) ?_)
    intro a65 p65
    refine q_v p65.s rfl rfl rfl (g_len (e := _) rfl Try.underlying25 p65.v ?_)
    intro a66 p66
    refine q_v p66.s rfl rfl rfl (g_lss rfl (p66.k (p65.k (p64.k p63.v rfl) rfl) rfl) p66.v ?_)
    intro a67 p67
    refine wpList_nil ?_
    have kc62 := (((((Kps.nil a62).u p63).u p64).u p65).u p66).u p67
    replace s1 := kc62.k s1 rfl
    replace s2 := kc62.k s2 rfl
    replace s4 := kc62.k s4 rfl
    replace s79 := p67.v
    clear kc62
    refine hK75 _ _ ?_
    clear hK75
    by_cases hc76 : ((k : Nat) : Int) < ((b.ls.length : Nat) : Int)
    · replace s79 : a67.eval (.tmp 79) = .bool true := (s79).trans (congrArg Value.bool (decide_eq_true hc76))
      refine c_true s79 ?_
      refine wp_skip ?_
      refine hK74 _ _ ?_
      clear hK74
      refine wp_seq_k fun K77 hK77 => ?_
      refine wp_block ?_
      refine wp_seq_k fun K78 hK78 => ?_
      have hlt : k < b.ls.length := by omega
      refine wp_region_lit ?_
      refine q_v p67.s rfl rfl rfl (g_field (r := 3) rfl s1 Try.underlying32 rfl (fun w => Try.sizeOf25 w) rfl rfl ?_)
      intro a68 p68
      refine q_v p68.s rfl rfl rfl (g_load rfl p68.v Try.isAgg25 (box_cell h_q2 rfl) ?_)
      intro a69 p69
      refine q_v p69.s rfl rfl rfl (g_move rfl (p69.k (p68.k s4 rfl) rfl) ?_)
      intro a70 p70
      obtain ⟨b79, o80, hA81, hl_hc82, hc82⟩ := Rd.get cLimit_len (hr_l.below hB) rfl (i := k) (by omega)
      refine q_v p70.s rfl rfl rfl (g_index (r := o80 + k * 3) (k := k) rfl ((p70.k p69.v rfl).trans (slice_at hA81)) p70.v Try.underlying25 (fun w => Try.sizeOf36 w) (by omega) rfl ?_)
      intro a71 p71
      refine q_v p71.s rfl rfl rfl (g_loadA (l := cLimit b.ls[k]) rfl p71.v Try.isAgg36 Try.sizeOf36 rfl (fun j u hu => by rw [Nat.add_assoc]; exact hc82 j u (by have := (List.getElem?_eq_some_iff.1 hu).1; exact this) hu) ?_)
      intro a72 p72
      refine q_v p72.s rfl rfl rfl ?_
      refine g_alloc rfl Try.zeroValue36 rfl ?_
      intro q83 w84 N_q83
      have n_q2_q83 := N_q83.ne ⟨lt_of_block h_q2⟩
      have n_q83_q2 := n_q2_q83.symm
      have g_q83 : GeB w.heap.size q83 := ⟨Nat.le_trans hB.size N_q83.lo⟩
      replace h_q2 := keep_below h_q2 N_q83.below
      replace hB := below_new hB hB.size N_q83
      have h_q83 := N_q83.here
      clear N_q83
      intro a73 p73
      refine q_eff rfl rfl ?_
      refine g_storeB rfl p73.v (p73.k p72.v rfl) Try.sizeOf36 rfl rfl h_q83 rfl ?_
      intro w85 W_w85
      replace h_q2 := keep_wrote h_q2 W_w85 n_q83_q2
      replace h_q83 := W_w85.here
      replace hB := below_wrote hB hB.size W_w85 g_q83.le
      clear W_w85
      refine wpList_nil ?_
      have kc67 := ((((((Kps.nil a67).u p68).u p69).u p70).u p71).u p72).u p73
      replace s1 := kc67.k s1 rfl
      replace s2 := kc67.k s2 rfl
      replace s4 := kc67.k s4 rfl
      replace s79 := kc67.k s79 rfl
      replace s5 := p73.v
      clear kc67
      refine hK78 _ _ ?_
      clear hK78
      refine wp_seq_k fun K86 hK86 => ?_
      refine wp_region_lit ?_
      refine q_v p73.s rfl rfl rfl (g_field (r := 0) rfl s5 Try.underlying36 rfl (fun w => Try.sizeOf3 w) rfl rfl ?_)
      intro a74 p74
      refine q_v p74.s rfl rfl rfl (g_load rfl p74.v Try.isAgg3 (box_cell h_q83 rfl) ?_)
      intro a75 p75
      refine q_v p75.s rfl rfl rfl ?_
      refine g_call rfl rfl Try.call58 (arr3 p75.v rfl rfl) ?_
      refine (l01In_any _ _ _ _).mono ?_
      rintro e w' ⟨rfl, rfl⟩
      refine ⟨_, rfl, ?_⟩
      intro a76 p76
      refine q_v p76.s rfl rfl rfl (g_not rfl p76.v ?_)
      intro a77 p77
      refine q_v p77.s rfl rfl rfl (g_move rfl p77.v ?_)
      intro a78 p78
      cases hc87 : inB (b.ls[k].f0) 0 7
      · have s89 : a76.eval (.tmp 89) = .bool false := (p76.v).trans (congrArg Value.bool hc87)
        have s90 : a77.eval (.tmp 90) = .bool true := (p77.v).trans (congrArg (fun b => Value.bool (!b)) hc87)
        have s91 : a78.eval (.tmp 91) = .bool true := (p78.v).trans (congrArg (fun b => Value.bool (!b)) hc87)
        refine q_s p78.s rfl rfl s91 rfl rfl ?_
        intro a79 p79
        refine q_s p79.s rfl rfl (p79.k s91 rfl) rfl rfl ?_
        intro a80 p80
        refine q_s p80.s rfl rfl (p80.k (p79.k s91 rfl) rfl) rfl rfl ?_
        intro a81 p81
        refine q_s p81.s rfl rfl (p81.k (p80.k (p79.k s91 rfl) rfl) rfl) rfl rfl ?_
        intro a82 p82
        refine q_v p82.s rfl rfl rfl (g_pick_t rfl (p82.k (p81.k (p80.k (p79.k s91 rfl) rfl) rfl) rfl) rfl ?_)
        intro a83 p83
        have s96 : a83.eval (.tmp 96) = .bool true := p83.v
        refine q_v p83.s rfl rfl rfl (g_move rfl s96 ?_)
        intro a84 p84
        refine q_s p84.s rfl rfl p84.v rfl rfl ?_
        intro a85 p85
        refine q_s p85.s rfl rfl (p85.k p84.v rfl) rfl rfl ?_
        intro a86 p86
        refine q_s p86.s rfl rfl (p86.k (p85.k p84.v rfl) rfl) rfl rfl ?_
        intro a87 p87
        refine q_s p87.s rfl rfl (p87.k (p86.k (p85.k p84.v rfl) rfl) rfl) rfl rfl ?_
        intro a88 p88
        refine q_v p88.s rfl rfl rfl (g_pick_t rfl (p88.k (p87.k (p86.k (p85.k p84.v rfl) rfl) rfl) rfl) rfl ?_)
        intro a89 p89
        have s102 : a89.eval (.tmp 102) = .bool true := p89.v
        refine wpList_nil ?_
        have kc73 := ((((((((((((((((Kps.nil a73).u p74).u p75).u p76).u p77).u p78).u p79).u p80).u p81).u p82).u p83).u p84).u p85).u p86).u p87).u p88).u p89
        replace s1 := kc73.k s1 rfl
        replace s2 := kc73.k s2 rfl
        replace s4 := kc73.k s4 rfl
        replace s79 := kc73.k s79 rfl
        replace s5 := kc73.k s5 rfl
        clear kc73
        refine hK86 _ _ ?_
        clear hK86
        refine c_true s102 ?_
        refine wp_seq_k fun K88 hK88 => ?_
        refine wp_region_lit ?_
        refine q_v p89.s rfl rfl rfl (g_assign rfl rfl ?_)
        intro a90 p90
        have s2 : a90.eval (.tmp 2) = .bool false := p90.v
        refine wpList_nil ?_
        replace s1 := p90.k s1 rfl
        replace s4 := p90.k s4 rfl
        replace s79 := p90.k s79 rfl
        replace s5 := p90.k s5 rfl
        replace s102 := p90.k s102 rfl
        refine hK88 _ _ ?_
        clear hK88
        refine wp_ret ?_
        try dsimp only [Exit.then, Exit.inBlock]
        refine ret1 p90.s Try.results23 (res_tmp s2) ?_
        have hl89 : decide (b.ps.length = 8) = true := by exact decide_eq_true (by omega)
        have hl90 : decide (b.ls.length ≤ 8) = true := by exact decide_eq_true (by omega)
        have hl91 : decide (b.ds.length ≤ 5000) = true := by exact decide_eq_true (by omega)
        have hl92 : decide (b.qs.length ≤ 5000) = true := by exact decide_eq_true (by omega)
        have hat : (limOk) b.ls[k] = false := by unfold limOk; simp only [hc87, Bool.and_true, Bool.true_and, Bool.and_false, Bool.false_and, Bool.or_true, Bool.true_or, Bool.or_false, Bool.false_or, Bool.not_true, Bool.not_false, Bool.and_self]
        have hx93 : b.ls.all (limOk) = false := all_fail (P := limOk) hlt hat
        exact ⟨by unfold boOk; simp only [hc6, hl89, hl90, hc13, hc17, hl91, hl92, hc34, hc42, hps, hx93, Bool.and_true, Bool.true_and, Bool.and_false, Bool.false_and, Bool.or_true, Bool.true_or, Bool.or_false, Bool.false_or, Bool.not_true, Bool.not_false, Bool.and_self], hB⟩
      have s89 : a76.eval (.tmp 89) = .bool true := (p76.v).trans (congrArg Value.bool hc87)
      have s90 : a77.eval (.tmp 90) = .bool false := (p77.v).trans (congrArg (fun b => Value.bool (!b)) hc87)
      have s91 : a78.eval (.tmp 91) = .bool false := (p78.v).trans (congrArg (fun b => Value.bool (!b)) hc87)
      refine q_t p78.s rfl rfl s91 rfl rfl (g_field (r := 1) rfl (p78.k (p77.k (p76.k (p75.k (p74.k s5 rfl) rfl) rfl) rfl) rfl) Try.underlying36 rfl (fun w => Try.sizeOf3 w) rfl rfl ?_)
      intro a79 p79
      refine q_t p79.s rfl rfl (p79.k s91 rfl) rfl rfl (g_load rfl p79.v Try.isAgg3 (box_cell h_q83 rfl) ?_)
      intro a80 p80
      refine q_t p80.s rfl rfl (p80.k (p79.k s91 rfl) rfl) rfl rfl ?_
      refine g_call rfl rfl Try.call58 (arr3 p80.v rfl rfl) ?_
      refine (l01In_any _ _ _ _).mono ?_
      rintro e w' ⟨rfl, rfl⟩
      refine ⟨_, rfl, ?_⟩
      intro a81 p81
      refine q_t p81.s rfl rfl (p81.k (p80.k (p79.k s91 rfl) rfl) rfl) rfl rfl (g_not rfl p81.v ?_)
      intro a82 p82
      refine q_v p82.s rfl rfl rfl (g_pick_f rfl (p82.k (p81.k (p80.k (p79.k s91 rfl) rfl) rfl) rfl) p82.v ?_)
      intro a83 p83
      have s96 : a83.eval (.tmp 96) = .bool (!(inB (b.ls[k].f1) 0 65535)) := p83.v
      refine q_v p83.s rfl rfl rfl (g_move rfl s96 ?_)
      intro a84 p84
      cases hc94 : inB (b.ls[k].f1) 0 65535
      · have s94 : a81.eval (.tmp 94) = .bool false := (p81.v).trans (congrArg Value.bool hc94)
        have s95 : a82.eval (.tmp 95) = .bool true := (p82.v).trans (congrArg (fun b => Value.bool (!b)) hc94)
        replace s96 : a83.eval (.tmp 96) = .bool true := (s96).trans (congrArg (fun b => Value.bool (!b)) hc94)
        have s97 : a84.eval (.tmp 97) = .bool true := (p84.v).trans (congrArg (fun b => Value.bool (!b)) hc94)
        refine q_s p84.s rfl rfl s97 rfl rfl ?_
        intro a85 p85
        refine q_s p85.s rfl rfl (p85.k s97 rfl) rfl rfl ?_
        intro a86 p86
        refine q_s p86.s rfl rfl (p86.k (p85.k s97 rfl) rfl) rfl rfl ?_
        intro a87 p87
        refine q_s p87.s rfl rfl (p87.k (p86.k (p85.k s97 rfl) rfl) rfl) rfl rfl ?_
        intro a88 p88
        refine q_v p88.s rfl rfl rfl (g_pick_t rfl (p88.k (p87.k (p86.k (p85.k s97 rfl) rfl) rfl) rfl) rfl ?_)
        intro a89 p89
        have s102 : a89.eval (.tmp 102) = .bool true := p89.v
        refine wpList_nil ?_
        have kc73 := ((((((((((((((((Kps.nil a73).u p74).u p75).u p76).u p77).u p78).u p79).u p80).u p81).u p82).u p83).u p84).u p85).u p86).u p87).u p88).u p89
        replace s1 := kc73.k s1 rfl
        replace s2 := kc73.k s2 rfl
        replace s4 := kc73.k s4 rfl
        replace s79 := kc73.k s79 rfl
        replace s5 := kc73.k s5 rfl
        clear kc73
        refine hK86 _ _ ?_
        clear hK86
        refine c_true s102 ?_
        refine wp_seq_k fun K95 hK95 => ?_
        refine wp_region_lit ?_
        refine q_v p89.s rfl rfl rfl (g_assign rfl rfl ?_)
        intro a90 p90
        have s2 : a90.eval (.tmp 2) = .bool false := p90.v
        refine wpList_nil ?_
        replace s1 := p90.k s1 rfl
        replace s4 := p90.k s4 rfl
        replace s79 := p90.k s79 rfl
        replace s5 := p90.k s5 rfl
        replace s102 := p90.k s102 rfl
        refine hK95 _ _ ?_
        clear hK95
        refine wp_ret ?_
        try dsimp only [Exit.then, Exit.inBlock]
        refine ret1 p90.s Try.results23 (res_tmp s2) ?_
        have hl96 : decide (b.ps.length = 8) = true := by exact decide_eq_true (by omega)
        have hl97 : decide (b.ls.length ≤ 8) = true := by exact decide_eq_true (by omega)
        have hl98 : decide (b.ds.length ≤ 5000) = true := by exact decide_eq_true (by omega)
        have hl99 : decide (b.qs.length ≤ 5000) = true := by exact decide_eq_true (by omega)
        have hat : (limOk) b.ls[k] = false := by unfold limOk; simp only [hc87, hc94, Bool.and_true, Bool.true_and, Bool.and_false, Bool.false_and, Bool.or_true, Bool.true_or, Bool.or_false, Bool.false_or, Bool.not_true, Bool.not_false, Bool.and_self]
        have hx100 : b.ls.all (limOk) = false := all_fail (P := limOk) hlt hat
        exact ⟨by unfold boOk; simp only [hc6, hl96, hl97, hc13, hc17, hl98, hl99, hc34, hc42, hps, hx100, Bool.and_true, Bool.true_and, Bool.and_false, Bool.false_and, Bool.or_true, Bool.true_or, Bool.or_false, Bool.false_or, Bool.not_true, Bool.not_false, Bool.and_self], hB⟩
      have s94 : a81.eval (.tmp 94) = .bool true := (p81.v).trans (congrArg Value.bool hc94)
      have s95 : a82.eval (.tmp 95) = .bool false := (p82.v).trans (congrArg (fun b => Value.bool (!b)) hc94)
      replace s96 : a83.eval (.tmp 96) = .bool false := (s96).trans (congrArg (fun b => Value.bool (!b)) hc94)
      have s97 : a84.eval (.tmp 97) = .bool false := (p84.v).trans (congrArg (fun b => Value.bool (!b)) hc94)
      refine q_t p84.s rfl rfl s97 rfl rfl (g_field (r := 2) rfl (p84.k (p83.k (p82.k (p81.k (p80.k (p79.k (p78.k (p77.k (p76.k (p75.k (p74.k s5 rfl) rfl) rfl) rfl) rfl) rfl) rfl) rfl) rfl) rfl) rfl) Try.underlying36 rfl (fun w => Try.sizeOf3 w) rfl rfl ?_)
      intro a85 p85
      refine q_t p85.s rfl rfl (p85.k s97 rfl) rfl rfl (g_load rfl p85.v Try.isAgg3 (box_cell h_q83 rfl) ?_)
      intro a86 p86
      refine q_t p86.s rfl rfl (p86.k (p85.k s97 rfl) rfl) rfl rfl ?_
      refine g_call rfl rfl Try.call58 (arr3 p86.v rfl rfl) ?_
      refine (l01In_any _ _ _ _).mono ?_
      rintro e w' ⟨rfl, rfl⟩
      refine ⟨_, rfl, ?_⟩
      intro a87 p87
      refine q_t p87.s rfl rfl (p87.k (p86.k (p85.k s97 rfl) rfl) rfl) rfl rfl (g_not rfl p87.v ?_)
      intro a88 p88
      refine q_v p88.s rfl rfl rfl (g_pick_f rfl (p88.k (p87.k (p86.k (p85.k s97 rfl) rfl) rfl) rfl) p88.v ?_)
      intro a89 p89
      have s102 : a89.eval (.tmp 102) = .bool (!(inB (b.ls[k].f2) 0 65535)) := p89.v
      refine wpList_nil ?_
      have kc73 := ((((((((((((((((Kps.nil a73).u p74).u p75).u p76).u p77).u p78).u p79).u p80).u p81).u p82).u p83).u p84).u p85).u p86).u p87).u p88).u p89
      replace s1 := kc73.k s1 rfl
      replace s2 := kc73.k s2 rfl
      replace s4 := kc73.k s4 rfl
      replace s79 := kc73.k s79 rfl
      replace s5 := kc73.k s5 rfl
      clear kc73
      refine hK86 _ _ ?_
      clear hK86
      cases hc101 : inB (b.ls[k].f2) 0 65535
      · replace s102 : a89.eval (.tmp 102) = .bool true := (s102).trans (congrArg (fun b => Value.bool (!b)) hc101)
        refine c_true s102 ?_
        refine wp_seq_k fun K102 hK102 => ?_
        refine wp_region_lit ?_
        refine q_v p89.s rfl rfl rfl (g_assign rfl rfl ?_)
        intro a90 p90
        have s2 : a90.eval (.tmp 2) = .bool false := p90.v
        refine wpList_nil ?_
        replace s1 := p90.k s1 rfl
        replace s4 := p90.k s4 rfl
        replace s79 := p90.k s79 rfl
        replace s5 := p90.k s5 rfl
        replace s102 := p90.k s102 rfl
        refine hK102 _ _ ?_
        clear hK102
        refine wp_ret ?_
        try dsimp only [Exit.then, Exit.inBlock]
        refine ret1 p90.s Try.results23 (res_tmp s2) ?_
        have hl103 : decide (b.ps.length = 8) = true := by exact decide_eq_true (by omega)
        have hl104 : decide (b.ls.length ≤ 8) = true := by exact decide_eq_true (by omega)
        have hl105 : decide (b.ds.length ≤ 5000) = true := by exact decide_eq_true (by omega)
        have hl106 : decide (b.qs.length ≤ 5000) = true := by exact decide_eq_true (by omega)
        have hat : (limOk) b.ls[k] = false := by unfold limOk; simp only [hc87, hc94, hc101, Bool.and_true, Bool.true_and, Bool.and_false, Bool.false_and, Bool.or_true, Bool.true_or, Bool.or_false, Bool.false_or, Bool.not_true, Bool.not_false, Bool.and_self]
        have hx107 : b.ls.all (limOk) = false := all_fail (P := limOk) hlt hat
        exact ⟨by unfold boOk; simp only [hc6, hl103, hl104, hc13, hc17, hl105, hl106, hc34, hc42, hps, hx107, Bool.and_true, Bool.true_and, Bool.and_false, Bool.false_and, Bool.or_true, Bool.true_or, Bool.or_false, Bool.false_or, Bool.not_true, Bool.not_false, Bool.and_self], hB⟩
      replace s102 : a89.eval (.tmp 102) = .bool false := (s102).trans (congrArg (fun b => Value.bool (!b)) hc101)
      refine c_false s102 ?_
      refine wp_skip ?_
      refine hK77 _ _ ?_
      clear hK77
      refine wp_region_lit ?_
      refine q_v p89.s rfl rfl rfl (g_move rfl s4 ?_)
      intro a90 p90
      refine q_v p90.s rfl rfl rfl (g_add (r := ((k + 1 : Nat) : Int)) rfl p90.v rfl (by omega) (by omega) ?_)
      intro a91 p91
      refine q_v p91.s rfl rfl rfl (g_assign rfl p91.v ?_)
      intro a92 p92
      refine wpList_nil ?_
      have kc89 := (((Kps.nil a89).u p90).u p91).u p92
      replace s1 := kc89.k s1 rfl
      replace s2 := kc89.k s2 rfl
      replace s4 := p92.v
      replace s79 := kc89.k s79 rfl
      replace s5 := kc89.k s5 rfl
      replace s102 := kc89.k s102 rfl
      clear kc89
      have hat : (limOk) b.ls[k] = true := by unfold limOk; simp only [hc6, decide_eq_true hc8, decide_eq_false hc9, hc13, hc17, decide_eq_false hc21, decide_eq_false hc26, hc34, hc42, decide_eq_false hc55, hps, decide_eq_true hc76, hc87, hc94, hc101, Bool.and_true, Bool.true_and, Bool.and_false, Bool.false_and, Bool.or_true, Bool.true_or, Bool.or_false, Bool.false_or, Bool.not_true, Bool.not_false, Bool.and_self]
      refine show _ ∧ _ from ⟨⟨k + 1, p92.s, s1, s2, s4, hB, h_q2, (by omega), (all_step hlt hst hat)⟩, ?_⟩
      show b.ls.length - (intOf (a92.eval (.tmp 4))).toNat < b.ls.length - (intOf (a62.eval (.tmp 4))).toNat
      rw [s4, mu73]
      simp only [intOf]
      omega
    replace s79 : a67.eval (.tmp 79) = .bool false := (s79).trans (congrArg Value.bool (decide_eq_false hc76))
    refine c_false s79 ?_
    refine wp_exit ?_
    refine hK69 _ _ ?_
    clear hK69
    refine wp_seq_k fun K108 hK108 => ?_
    refine wp_seq_k fun K109 hK109 => ?_
    have hls : b.ls.all (limOk) = true := all_done (by omega) hst
    refine wp_region_lit ?_
    refine q_v p67.s rfl rfl rfl (g_assign rfl rfl ?_)
    intro a68 p68
    have s6 : a68.eval (.tmp 6) = .int .i64 0 := p68.v
    refine wpList_nil ?_
    replace s1 := p68.k s1 rfl
    replace s2 := p68.k s2 rfl
    refine hK109 _ _ ?_
    clear hK109
    refine wp_block ?_
    refine wp_loop (fun a wr => ∃ (k : Nat), (St 166 a) ∧ (a.eval (.tmp 1) = .pointer (some ⟨q2, 0, none⟩)) ∧ (a.eval (.tmp 2) = .bool false) ∧ (a.eval (.tmp 6) = .int .i64 ((k : Nat) : Int)) ∧ (Below w.heap.size w wr) ∧ (wr.heap[q2]? = some (.cells #[.int .i64 b.clk, .slice pA b.ps.length pc, .bool b.safe, .slice lA b.ls.length lc, .slice oA b.os.length oc, .slice dA b.ds.length dc, .int .i64 b.room, .slice rA b.rs.length rc, .slice xA b.xs.length xc, .int .i64 b.made, .int .i64 b.taken, .slice qA b.qs.length qc] 32 (0, 0))) ∧ (k ≤ b.ds.length) ∧ ((b.ds.take k).all (dnOk b.taken) = true)) (fun a _ => b.ds.length - (intOf (a.eval (.tmp 6))).toNat) (⟨0, p68.s, s1, s2, s6, hB, h_q2, Nat.zero_le _, rfl⟩) ?_
    intro a69 w111 hIv
    obtain ⟨k, hs, s1, s2, s6, hB, h_q2, hk, hst⟩ := hIv
    have mu112 := s6
    refine wp_seq_k fun K113 hK113 => ?_
    refine wp_seq_k fun K114 hK114 => ?_
    refine wp_region_lit ?_
    refine q_v hs rfl rfl rfl (g_move rfl s6 ?_)
    intro a70 p70
    refine q_v p70.s rfl rfl rfl (g_field (r := 5) rfl (p70.k s1 rfl) Try.underlying32 rfl (fun w => Try.sizeOf27 w) rfl rfl ?_)
    intro a71 p71
    refine q_v p71.s rfl rfl rfl (g_load rfl p71.v Try.isAgg27 (box_cell h_q2 rfl) ?_)
    intro a72 p72
    refine q_v p72.s rfl rfl rfl (g_len (e := _) rfl Try.underlying27 p72.v ?_)
    intro a73 p73
    refine q_v p73.s rfl rfl rfl (g_lss rfl (p73.k (p72.k (p71.k p70.v rfl) rfl) rfl) p73.v ?_)
    intro a74 p74
    refine wpList_nil ?_
    have kc69 := (((((Kps.nil a69).u p70).u p71).u p72).u p73).u p74
    replace s1 := kc69.k s1 rfl
    replace s2 := kc69.k s2 rfl
    replace s6 := kc69.k s6 rfl
    replace s107 := p74.v
    clear kc69
    refine hK114 _ _ ?_
    clear hK114
    by_cases hc115 : ((k : Nat) : Int) < ((b.ds.length : Nat) : Int)
    · replace s107 : a74.eval (.tmp 107) = .bool true := (s107).trans (congrArg Value.bool (decide_eq_true hc115))
      refine c_true s107 ?_
      refine wp_skip ?_
      refine hK113 _ _ ?_
      clear hK113
      refine wp_seq_k fun K116 hK116 => ?_
      refine wp_block ?_
      refine wp_seq_k fun K117 hK117 => ?_
      have hlt : k < b.ds.length := by omega
      refine wp_region_lit ?_
      refine q_v p74.s rfl rfl rfl (g_field (r := 5) rfl s1 Try.underlying32 rfl (fun w => Try.sizeOf27 w) rfl rfl ?_)
      intro a75 p75
      refine q_v p75.s rfl rfl rfl (g_load rfl p75.v Try.isAgg27 (box_cell h_q2 rfl) ?_)
      intro a76 p76
      refine q_v p76.s rfl rfl rfl (g_move rfl (p76.k (p75.k s6 rfl) rfl) ?_)
      intro a77 p77
      obtain ⟨b118, o119, hA120, hl_hc121, hc121⟩ := Rd.get cDone_len (hr_d.below hB) rfl (i := k) (by omega)
      refine q_v p77.s rfl rfl rfl (g_index (r := o119 + k * 3) (k := k) rfl ((p77.k p76.v rfl).trans (slice_at hA120)) p77.v Try.underlying27 (fun w => Try.sizeOf51 w) (by omega) rfl ?_)
      intro a78 p78
      refine q_v p78.s rfl rfl rfl (g_loadA (l := cDone b.ds[k]) rfl p78.v Try.isAgg51 Try.sizeOf51 rfl (fun j u hu => by rw [Nat.add_assoc]; exact hc121 j u (by have := (List.getElem?_eq_some_iff.1 hu).1; exact this) hu) ?_)
      intro a79 p79
      refine q_v p79.s rfl rfl rfl ?_
      refine g_alloc rfl Try.zeroValue51 rfl ?_
      intro q122 w123 N_q122
      have n_q2_q122 := N_q122.ne ⟨lt_of_block h_q2⟩
      have n_q122_q2 := n_q2_q122.symm
      have g_q122 : GeB w.heap.size q122 := ⟨Nat.le_trans hB.size N_q122.lo⟩
      replace h_q2 := keep_below h_q2 N_q122.below
      replace hB := below_new hB hB.size N_q122
      have h_q122 := N_q122.here
      clear N_q122
      intro a80 p80
      refine q_eff rfl rfl ?_
      refine g_storeB rfl p80.v (p80.k p79.v rfl) Try.sizeOf51 rfl rfl h_q122 rfl ?_
      intro w124 W_w124
      replace h_q2 := keep_wrote h_q2 W_w124 n_q122_q2
      replace h_q122 := W_w124.here
      replace hB := below_wrote hB hB.size W_w124 g_q122.le
      clear W_w124
      refine wpList_nil ?_
      have kc74 := ((((((Kps.nil a74).u p75).u p76).u p77).u p78).u p79).u p80
      replace s1 := kc74.k s1 rfl
      replace s2 := kc74.k s2 rfl
      replace s6 := kc74.k s6 rfl
      replace s107 := kc74.k s107 rfl
      replace s7 := p80.v
      clear kc74
      refine hK117 _ _ ?_
      clear hK117
      refine wp_seq_k fun K125 hK125 => ?_
      refine wp_region_lit ?_
      refine q_v p80.s rfl rfl rfl (g_field (r := 0) rfl s7 Try.underlying51 rfl (fun w => Try.sizeOf3 w) rfl rfl ?_)
      intro a81 p81
      refine q_v p81.s rfl rfl rfl (g_load rfl p81.v Try.isAgg3 (box_cell h_q122 rfl) ?_)
      intro a82 p82
      refine q_v p82.s rfl rfl rfl (g_field (r := 10) rfl (p82.k (p81.k s1 rfl) rfl) Try.underlying32 rfl (fun w => Try.sizeOf3 w) rfl rfl ?_)
      intro a83 p83
      refine q_v p83.s rfl rfl rfl (g_load rfl p83.v Try.isAgg3 (box_cell h_q2 rfl) ?_)
      intro a84 p84
      refine q_v p84.s rfl rfl rfl (g_sub (r := b.taken - 1) rfl p84.v rfl (by omega) (by omega) ?_)
      intro a85 p85
      refine q_v p85.s rfl rfl rfl ?_
      refine g_call rfl rfl Try.call58 (arr3 (p85.k (p84.k (p83.k p82.v rfl) rfl) rfl) rfl p85.v) ?_
      refine (l01In_any _ _ _ _).mono ?_
      rintro e w' ⟨rfl, rfl⟩
      refine ⟨_, rfl, ?_⟩
      intro a86 p86
      refine q_v p86.s rfl rfl rfl (g_not rfl p86.v ?_)
      intro a87 p87
      refine q_v p87.s rfl rfl rfl (g_move rfl p87.v ?_)
      intro a88 p88
      cases hc126 : inB (b.ds[k].f0) 0 (b.taken - 1)
      · have s120 : a86.eval (.tmp 120) = .bool false := (p86.v).trans (congrArg Value.bool hc126)
        have s121 : a87.eval (.tmp 121) = .bool true := (p87.v).trans (congrArg (fun b => Value.bool (!b)) hc126)
        have s122 : a88.eval (.tmp 122) = .bool true := (p88.v).trans (congrArg (fun b => Value.bool (!b)) hc126)
        refine q_s p88.s rfl rfl s122 rfl rfl ?_
        intro a89 p89
        refine q_s p89.s rfl rfl (p89.k s122 rfl) rfl rfl ?_
        intro a90 p90
        refine q_s p90.s rfl rfl (p90.k (p89.k s122 rfl) rfl) rfl rfl ?_
        intro a91 p91
        refine q_s p91.s rfl rfl (p91.k (p90.k (p89.k s122 rfl) rfl) rfl) rfl rfl ?_
        intro a92 p92
        refine q_v p92.s rfl rfl rfl (g_pick_t rfl (p92.k (p91.k (p90.k (p89.k s122 rfl) rfl) rfl) rfl) rfl ?_)
        intro a93 p93
        have s127 : a93.eval (.tmp 127) = .bool true := p93.v
        refine q_v p93.s rfl rfl rfl (g_move rfl s127 ?_)
        intro a94 p94
        refine q_s p94.s rfl rfl p94.v rfl rfl ?_
        intro a95 p95
        refine q_s p95.s rfl rfl (p95.k p94.v rfl) rfl rfl ?_
        intro a96 p96
        refine q_s p96.s rfl rfl (p96.k (p95.k p94.v rfl) rfl) rfl rfl ?_
        intro a97 p97
        refine q_s p97.s rfl rfl (p97.k (p96.k (p95.k p94.v rfl) rfl) rfl) rfl rfl ?_
        intro a98 p98
        refine q_v p98.s rfl rfl rfl (g_pick_t rfl (p98.k (p97.k (p96.k (p95.k p94.v rfl) rfl) rfl) rfl) rfl ?_)
        intro a99 p99
        have s133 : a99.eval (.tmp 133) = .bool true := p99.v
        refine wpList_nil ?_
        have kc80 := (((((((((((((((((((Kps.nil a80).u p81).u p82).u p83).u p84).u p85).u p86).u p87).u p88).u p89).u p90).u p91).u p92).u p93).u p94).u p95).u p96).u p97).u p98).u p99
        replace s1 := kc80.k s1 rfl
        replace s2 := kc80.k s2 rfl
        replace s6 := kc80.k s6 rfl
        replace s107 := kc80.k s107 rfl
        replace s7 := kc80.k s7 rfl
        clear kc80
        refine hK125 _ _ ?_
        clear hK125
        refine c_true s133 ?_
        refine wp_seq_k fun K127 hK127 => ?_
        refine wp_region_lit ?_
        refine q_v p99.s rfl rfl rfl (g_assign rfl rfl ?_)
        intro a100 p100
        have s2 : a100.eval (.tmp 2) = .bool false := p100.v
        refine wpList_nil ?_
        replace s1 := p100.k s1 rfl
        replace s6 := p100.k s6 rfl
        replace s107 := p100.k s107 rfl
        replace s7 := p100.k s7 rfl
        replace s133 := p100.k s133 rfl
        refine hK127 _ _ ?_
        clear hK127
        refine wp_ret ?_
        try dsimp only [Exit.then, Exit.inBlock]
        refine ret1 p100.s Try.results23 (res_tmp s2) ?_
        have hl128 : decide (b.ps.length = 8) = true := by exact decide_eq_true (by omega)
        have hl129 : decide (b.ls.length ≤ 8) = true := by exact decide_eq_true (by omega)
        have hl130 : decide (b.ds.length ≤ 5000) = true := by exact decide_eq_true (by omega)
        have hl131 : decide (b.qs.length ≤ 5000) = true := by exact decide_eq_true (by omega)
        have hat : (dnOk b.taken) b.ds[k] = false := by unfold dnOk; simp only [hc126, Bool.and_true, Bool.true_and, Bool.and_false, Bool.false_and, Bool.or_true, Bool.true_or, Bool.or_false, Bool.false_or, Bool.not_true, Bool.not_false, Bool.and_self]
        have hx132 : b.ds.all (dnOk b.taken) = false := all_fail (P := dnOk b.taken) hlt hat
        exact ⟨by unfold boOk; simp only [hc6, hl128, hl129, hc13, hc17, hl130, hl131, hc34, hc42, hps, hls, hx132, Bool.and_true, Bool.true_and, Bool.and_false, Bool.false_and, Bool.or_true, Bool.true_or, Bool.or_false, Bool.false_or, Bool.not_true, Bool.not_false, Bool.and_self], hB⟩
      have s120 : a86.eval (.tmp 120) = .bool true := (p86.v).trans (congrArg Value.bool hc126)
      have s121 : a87.eval (.tmp 121) = .bool false := (p87.v).trans (congrArg (fun b => Value.bool (!b)) hc126)
      have s122 : a88.eval (.tmp 122) = .bool false := (p88.v).trans (congrArg (fun b => Value.bool (!b)) hc126)
      refine q_t p88.s rfl rfl s122 rfl rfl (g_field (r := 1) rfl (p88.k (p87.k (p86.k (p85.k (p84.k (p83.k (p82.k (p81.k s7 rfl) rfl) rfl) rfl) rfl) rfl) rfl) rfl) Try.underlying51 rfl (fun w => Try.sizeOf3 w) rfl rfl ?_)
      intro a89 p89
      refine q_t p89.s rfl rfl (p89.k s122 rfl) rfl rfl (g_load rfl p89.v Try.isAgg3 (box_cell h_q122 rfl) ?_)
      intro a90 p90
      refine q_t p90.s rfl rfl (p90.k (p89.k s122 rfl) rfl) rfl rfl ?_
      refine g_call rfl rfl Try.call58 (arr3 p90.v rfl rfl) ?_
      refine (l01In_any _ _ _ _).mono ?_
      rintro e w' ⟨rfl, rfl⟩
      refine ⟨_, rfl, ?_⟩
      intro a91 p91
      refine q_t p91.s rfl rfl (p91.k (p90.k (p89.k s122 rfl) rfl) rfl) rfl rfl (g_not rfl p91.v ?_)
      intro a92 p92
      refine q_v p92.s rfl rfl rfl (g_pick_f rfl (p92.k (p91.k (p90.k (p89.k s122 rfl) rfl) rfl) rfl) p92.v ?_)
      intro a93 p93
      have s127 : a93.eval (.tmp 127) = .bool (!(inB (b.ds[k].f1) 0 1000000)) := p93.v
      refine q_v p93.s rfl rfl rfl (g_move rfl s127 ?_)
      intro a94 p94
      cases hc133 : inB (b.ds[k].f1) 0 1000000
      · have s125 : a91.eval (.tmp 125) = .bool false := (p91.v).trans (congrArg Value.bool hc133)
        have s126 : a92.eval (.tmp 126) = .bool true := (p92.v).trans (congrArg (fun b => Value.bool (!b)) hc133)
        replace s127 : a93.eval (.tmp 127) = .bool true := (s127).trans (congrArg (fun b => Value.bool (!b)) hc133)
        have s128 : a94.eval (.tmp 128) = .bool true := (p94.v).trans (congrArg (fun b => Value.bool (!b)) hc133)
        refine q_s p94.s rfl rfl s128 rfl rfl ?_
        intro a95 p95
        refine q_s p95.s rfl rfl (p95.k s128 rfl) rfl rfl ?_
        intro a96 p96
        refine q_s p96.s rfl rfl (p96.k (p95.k s128 rfl) rfl) rfl rfl ?_
        intro a97 p97
        refine q_s p97.s rfl rfl (p97.k (p96.k (p95.k s128 rfl) rfl) rfl) rfl rfl ?_
        intro a98 p98
        refine q_v p98.s rfl rfl rfl (g_pick_t rfl (p98.k (p97.k (p96.k (p95.k s128 rfl) rfl) rfl) rfl) rfl ?_)
        intro a99 p99
        have s133 : a99.eval (.tmp 133) = .bool true := p99.v
        refine wpList_nil ?_
        have kc80 := (((((((((((((((((((Kps.nil a80).u p81).u p82).u p83).u p84).u p85).u p86).u p87).u p88).u p89).u p90).u p91).u p92).u p93).u p94).u p95).u p96).u p97).u p98).u p99
        replace s1 := kc80.k s1 rfl
        replace s2 := kc80.k s2 rfl
        replace s6 := kc80.k s6 rfl
        replace s107 := kc80.k s107 rfl
        replace s7 := kc80.k s7 rfl
        clear kc80
        refine hK125 _ _ ?_
        clear hK125
        refine c_true s133 ?_
        refine wp_seq_k fun K134 hK134 => ?_
        refine wp_region_lit ?_
        refine q_v p99.s rfl rfl rfl (g_assign rfl rfl ?_)
        intro a100 p100
        have s2 : a100.eval (.tmp 2) = .bool false := p100.v
        refine wpList_nil ?_
        replace s1 := p100.k s1 rfl
        replace s6 := p100.k s6 rfl
        replace s107 := p100.k s107 rfl
        replace s7 := p100.k s7 rfl
        replace s133 := p100.k s133 rfl
        refine hK134 _ _ ?_
        clear hK134
        refine wp_ret ?_
        try dsimp only [Exit.then, Exit.inBlock]
        refine ret1 p100.s Try.results23 (res_tmp s2) ?_
        have hl135 : decide (b.ps.length = 8) = true := by exact decide_eq_true (by omega)
        have hl136 : decide (b.ls.length ≤ 8) = true := by exact decide_eq_true (by omega)
        have hl137 : decide (b.ds.length ≤ 5000) = true := by exact decide_eq_true (by omega)
        have hl138 : decide (b.qs.length ≤ 5000) = true := by exact decide_eq_true (by omega)
        have hat : (dnOk b.taken) b.ds[k] = false := by unfold dnOk; simp only [hc126, hc133, Bool.and_true, Bool.true_and, Bool.and_false, Bool.false_and, Bool.or_true, Bool.true_or, Bool.or_false, Bool.false_or, Bool.not_true, Bool.not_false, Bool.and_self]
        have hx139 : b.ds.all (dnOk b.taken) = false := all_fail (P := dnOk b.taken) hlt hat
        exact ⟨by unfold boOk; simp only [hc6, hl135, hl136, hc13, hc17, hl137, hl138, hc34, hc42, hps, hls, hx139, Bool.and_true, Bool.true_and, Bool.and_false, Bool.false_and, Bool.or_true, Bool.true_or, Bool.or_false, Bool.false_or, Bool.not_true, Bool.not_false, Bool.and_self], hB⟩
      have s125 : a91.eval (.tmp 125) = .bool true := (p91.v).trans (congrArg Value.bool hc133)
      have s126 : a92.eval (.tmp 126) = .bool false := (p92.v).trans (congrArg (fun b => Value.bool (!b)) hc133)
      replace s127 : a93.eval (.tmp 127) = .bool false := (s127).trans (congrArg (fun b => Value.bool (!b)) hc133)
      have s128 : a94.eval (.tmp 128) = .bool false := (p94.v).trans (congrArg (fun b => Value.bool (!b)) hc133)
      refine q_t p94.s rfl rfl s128 rfl rfl (g_field (r := 2) rfl (p94.k (p93.k (p92.k (p91.k (p90.k (p89.k (p88.k (p87.k (p86.k (p85.k (p84.k (p83.k (p82.k (p81.k s7 rfl) rfl) rfl) rfl) rfl) rfl) rfl) rfl) rfl) rfl) rfl) rfl) rfl) rfl) Try.underlying51 rfl (fun w => Try.sizeOf3 w) rfl rfl ?_)
      intro a95 p95
      refine q_t p95.s rfl rfl (p95.k s128 rfl) rfl rfl (g_load rfl p95.v Try.isAgg3 (box_cell h_q122 rfl) ?_)
      intro a96 p96
      refine q_t p96.s rfl rfl (p96.k (p95.k s128 rfl) rfl) rfl rfl ?_
      refine g_call rfl rfl Try.call58 (arr3 p96.v rfl rfl) ?_
      refine (l01In_any _ _ _ _).mono ?_
      rintro e w' ⟨rfl, rfl⟩
      refine ⟨_, rfl, ?_⟩
      intro a97 p97
      refine q_t p97.s rfl rfl (p97.k (p96.k (p95.k s128 rfl) rfl) rfl) rfl rfl (g_not rfl p97.v ?_)
      intro a98 p98
      refine q_v p98.s rfl rfl rfl (g_pick_f rfl (p98.k (p97.k (p96.k (p95.k s128 rfl) rfl) rfl) rfl) p98.v ?_)
      intro a99 p99
      have s133 : a99.eval (.tmp 133) = .bool (!(inB (b.ds[k].f2) 0 1)) := p99.v
      refine wpList_nil ?_
      have kc80 := (((((((((((((((((((Kps.nil a80).u p81).u p82).u p83).u p84).u p85).u p86).u p87).u p88).u p89).u p90).u p91).u p92).u p93).u p94).u p95).u p96).u p97).u p98).u p99
      replace s1 := kc80.k s1 rfl
      replace s2 := kc80.k s2 rfl
      replace s6 := kc80.k s6 rfl
      replace s107 := kc80.k s107 rfl
      replace s7 := kc80.k s7 rfl
      clear kc80
      refine hK125 _ _ ?_
      clear hK125
      cases hc140 : inB (b.ds[k].f2) 0 1
      · replace s133 : a99.eval (.tmp 133) = .bool true := (s133).trans (congrArg (fun b => Value.bool (!b)) hc140)
        refine c_true s133 ?_
        refine wp_seq_k fun K141 hK141 => ?_
        refine wp_region_lit ?_
        refine q_v p99.s rfl rfl rfl (g_assign rfl rfl ?_)
        intro a100 p100
        have s2 : a100.eval (.tmp 2) = .bool false := p100.v
        refine wpList_nil ?_
        replace s1 := p100.k s1 rfl
        replace s6 := p100.k s6 rfl
        replace s107 := p100.k s107 rfl
        replace s7 := p100.k s7 rfl
        replace s133 := p100.k s133 rfl
        refine hK141 _ _ ?_
        clear hK141
        refine wp_ret ?_
        try dsimp only [Exit.then, Exit.inBlock]
        refine ret1 p100.s Try.results23 (res_tmp s2) ?_
        have hl142 : decide (b.ps.length = 8) = true := by exact decide_eq_true (by omega)
        have hl143 : decide (b.ls.length ≤ 8) = true := by exact decide_eq_true (by omega)
        have hl144 : decide (b.ds.length ≤ 5000) = true := by exact decide_eq_true (by omega)
        have hl145 : decide (b.qs.length ≤ 5000) = true := by exact decide_eq_true (by omega)
        have hat : (dnOk b.taken) b.ds[k] = false := by unfold dnOk; simp only [hc126, hc133, hc140, Bool.and_true, Bool.true_and, Bool.and_false, Bool.false_and, Bool.or_true, Bool.true_or, Bool.or_false, Bool.false_or, Bool.not_true, Bool.not_false, Bool.and_self]
        have hx146 : b.ds.all (dnOk b.taken) = false := all_fail (P := dnOk b.taken) hlt hat
        exact ⟨by unfold boOk; simp only [hc6, hl142, hl143, hc13, hc17, hl144, hl145, hc34, hc42, hps, hls, hx146, Bool.and_true, Bool.true_and, Bool.and_false, Bool.false_and, Bool.or_true, Bool.true_or, Bool.or_false, Bool.false_or, Bool.not_true, Bool.not_false, Bool.and_self], hB⟩
      replace s133 : a99.eval (.tmp 133) = .bool false := (s133).trans (congrArg (fun b => Value.bool (!b)) hc140)
      refine c_false s133 ?_
      refine wp_skip ?_
      refine hK116 _ _ ?_
      clear hK116
      refine wp_region_lit ?_
      refine q_v p99.s rfl rfl rfl (g_move rfl s6 ?_)
      intro a100 p100
      refine q_v p100.s rfl rfl rfl (g_add (r := ((k + 1 : Nat) : Int)) rfl p100.v rfl (by omega) (by omega) ?_)
      intro a101 p101
      refine q_v p101.s rfl rfl rfl (g_assign rfl p101.v ?_)
      intro a102 p102
      refine wpList_nil ?_
      have kc99 := (((Kps.nil a99).u p100).u p101).u p102
      replace s1 := kc99.k s1 rfl
      replace s2 := kc99.k s2 rfl
      replace s6 := p102.v
      replace s107 := kc99.k s107 rfl
      replace s7 := kc99.k s7 rfl
      replace s133 := kc99.k s133 rfl
      clear kc99
      have hat : (dnOk b.taken) b.ds[k] = true := by unfold dnOk; simp only [hc6, decide_eq_true hc8, decide_eq_false hc9, hc13, hc17, decide_eq_false hc21, decide_eq_false hc26, hc34, hc42, decide_eq_false hc55, hps, decide_eq_false hc76, hls, decide_eq_true hc115, hc126, hc133, hc140, Bool.and_true, Bool.true_and, Bool.and_false, Bool.false_and, Bool.or_true, Bool.true_or, Bool.or_false, Bool.false_or, Bool.not_true, Bool.not_false, Bool.and_self]
      refine show _ ∧ _ from ⟨⟨k + 1, p102.s, s1, s2, s6, hB, h_q2, (by omega), (all_step hlt hst hat)⟩, ?_⟩
      show b.ds.length - (intOf (a102.eval (.tmp 6))).toNat < b.ds.length - (intOf (a69.eval (.tmp 6))).toNat
      rw [s6, mu112]
      simp only [intOf]
      omega
    replace s107 : a74.eval (.tmp 107) = .bool false := (s107).trans (congrArg Value.bool (decide_eq_false hc115))
    refine c_false s107 ?_
    refine wp_exit ?_
    refine hK108 _ _ ?_
    clear hK108
    refine wp_seq_k fun K147 hK147 => ?_
    refine wp_seq_k fun K148 hK148 => ?_
    have hds : b.ds.all (dnOk b.taken) = true := all_done (by omega) hst
    refine wp_region_lit ?_
    refine q_v p74.s rfl rfl rfl (g_assign rfl rfl ?_)
    intro a75 p75
    have s8 : a75.eval (.tmp 8) = .int .i64 0 := p75.v
    refine wpList_nil ?_
    replace s1 := p75.k s1 rfl
    replace s2 := p75.k s2 rfl
    refine hK148 _ _ ?_
    clear hK148
    refine wp_block ?_
    refine wp_loop (fun a wr => ∃ (k : Nat), (St 166 a) ∧ (a.eval (.tmp 1) = .pointer (some ⟨q2, 0, none⟩)) ∧ (a.eval (.tmp 2) = .bool false) ∧ (a.eval (.tmp 8) = .int .i64 ((k : Nat) : Int)) ∧ (Below w.heap.size w wr) ∧ (wr.heap[q2]? = some (.cells #[.int .i64 b.clk, .slice pA b.ps.length pc, .bool b.safe, .slice lA b.ls.length lc, .slice oA b.os.length oc, .slice dA b.ds.length dc, .int .i64 b.room, .slice rA b.rs.length rc, .slice xA b.xs.length xc, .int .i64 b.made, .int .i64 b.taken, .slice qA b.qs.length qc] 32 (0, 0))) ∧ (k ≤ b.rs.length) ∧ ((b.rs.take k).all (fun r => decide (r.f0 < b.made)) = true)) (fun a _ => b.rs.length - (intOf (a.eval (.tmp 8))).toNat) (⟨0, p75.s, s1, s2, s8, hB, h_q2, Nat.zero_le _, rfl⟩) ?_
    intro a76 w150 hIv
    obtain ⟨k, hs, s1, s2, s8, hB, h_q2, hk, hst⟩ := hIv
    have mu151 := s8
    refine wp_seq_k fun K152 hK152 => ?_
    refine wp_seq_k fun K153 hK153 => ?_
    refine wp_region_lit ?_
    refine q_v hs rfl rfl rfl (g_move rfl s8 ?_)
    intro a77 p77
    refine q_v p77.s rfl rfl rfl (g_field (r := 6) rfl (p77.k s1 rfl) Try.underlying32 rfl (fun w => Try.sizeOf30 w) rfl rfl ?_)
    intro a78 p78
    refine q_v p78.s rfl rfl rfl (g_field (r := 7) rfl p78.v Try.underlying30 rfl (fun w => Try.sizeOf28 w) rfl rfl ?_)
    intro a79 p79
    refine q_v p79.s rfl rfl rfl (g_load rfl p79.v Try.isAgg28 (box_cell h_q2 rfl) ?_)
    intro a80 p80
    refine q_v p80.s rfl rfl rfl (g_len (e := _) rfl Try.underlying28 p80.v ?_)
    intro a81 p81
    refine q_v p81.s rfl rfl rfl (g_lss rfl (p81.k (p80.k (p79.k (p78.k p77.v rfl) rfl) rfl) rfl) p81.v ?_)
    intro a82 p82
    refine wpList_nil ?_
    have kc76 := ((((((Kps.nil a76).u p77).u p78).u p79).u p80).u p81).u p82
    replace s1 := kc76.k s1 rfl
    replace s2 := kc76.k s2 rfl
    replace s8 := kc76.k s8 rfl
    replace s139 := p82.v
    clear kc76
    refine hK153 _ _ ?_
    clear hK153
    by_cases hc154 : ((k : Nat) : Int) < ((b.rs.length : Nat) : Int)
    · replace s139 : a82.eval (.tmp 139) = .bool true := (s139).trans (congrArg Value.bool (decide_eq_true hc154))
      refine c_true s139 ?_
      refine wp_skip ?_
      refine hK152 _ _ ?_
      clear hK152
      refine wp_seq_k fun K155 hK155 => ?_
      refine wp_block ?_
      refine wp_seq_k fun K156 hK156 => ?_
      have hlt : k < b.rs.length := by omega
      have hs := p82.s
      obtain ⟨b157, o158, hA159, hl_hc160, hc160⟩ := Rd.get cRecord_len (hr_r.below hB) rfl (i := k) (by omega)
      refine wp_drawn (n := 166) [] [] [] (fun k_ v_ _wx => match k_ with | 0 => v_ = .pointer (some ⟨q2, 6, none⟩) | 1 => v_ = .pointer (some ⟨q2, 7, none⟩) | 2 => v_ = .slice rA b.rs.length rc | 3 => v_ = .int .i64 ((k : Nat) : Int) | 4 => v_ = .pointer (some ⟨b157, o158 + k * 4, none⟩) | 5 => v_ = .pointer (some ⟨b157, o158 + k * 4, none⟩) | 6 => v_ = .int .i64 (b.rs[k].f0) | 7 => v_ = .pointer (some ⟨q2, 9, none⟩) | 8 => v_ = .int .i64 b.made | 9 => v_ = .bool (decide (b.made ≤ b.rs[k].f0)) | _ => True) (by kernel_rfl) (by kernel_rfl) (by kernel_rfl) (by kernel_rfl) hs.size ?_ ?_ ?_
      · intro i v wa wb hb hr
        rcases i with _ | _ | _ | _ | _ | _ | _ | _ | _ | _ | i
        · exact hr
        · exact hr
        · exact hr
        · exact hr
        · exact hr
        · exact hr
        · exact hr
        · exact hr
        · exact hr
        · exact hr
        · trivial
      · refine d_step rfl rfl ?_ (d_step rfl rfl ?_ (d_step rfl rfl ?_ (d_step rfl rfl ?_ (d_step rfl rfl ?_ (d_step rfl rfl ?_ (d_step rfl rfl ?_ (d_step rfl rfl ?_ (d_step rfl rfl ?_ (d_step rfl rfl ?_ (d_nil))))))))))
        · intro xv_ wx ρ hρ hwx hd K hK
          have e1 : ρ (.tmp 1) = .pointer (some ⟨q2, 0, none⟩) := (hρ.inn 1 rfl).trans s1
          refine g_field (r := 6) rfl e1 Try.underlying32 rfl (fun w => Try.sizeOf30 w) rfl rfl ?_
          exact hK _ _ (Below.refl _ _) rfl
        · intro xv_ wx ρ hρ hwx hd K hK
          have e142 := (out2 hρ hs 0 142 rfl rfl rfl).trans (hd 0 rfl)
          refine g_field (r := 7) rfl e142 Try.underlying30 rfl (fun w => Try.sizeOf28 w) rfl rfl ?_
          exact hK _ _ (Below.refl _ _) rfl
        · intro xv_ wx ρ hρ hwx hd K hK
          have e143 := (out2 hρ hs 1 143 rfl rfl rfl).trans (hd 1 rfl)
          have h_q2 := keep_below h_q2 hwx
          refine g_load rfl e143 Try.isAgg28 (box_cell h_q2 rfl) ?_
          exact hK _ _ (Below.refl _ _) rfl
        · intro xv_ wx ρ hρ hwx hd K hK
          have e8 : ρ (.tmp 8) = .int .i64 ((k : Nat) : Int) := (hρ.inn 8 rfl).trans s8
          refine g_move rfl e8 ?_
          exact hK _ _ (Below.refl _ _) rfl
        · intro xv_ wx ρ hρ hwx hd K hK
          have e144 := (out2 hρ hs 2 144 rfl rfl rfl).trans (hd 2 rfl)
          have e145 := (out2 hρ hs 3 145 rfl rfl rfl).trans (hd 3 rfl)
          refine g_index (r := o158 + k * 4) (k := k) rfl (e144.trans (slice_at hA159)) e145 Try.underlying28 (fun w => Try.sizeOf47 w) (by omega) rfl ?_
          exact hK _ _ (Below.refl _ _) rfl
        · intro xv_ wx ρ hρ hwx hd K hK
          have e146 := (out2 hρ hs 4 146 rfl rfl rfl).trans (hd 4 rfl)
          refine g_field (r := o158 + k * 4) rfl e146 Try.underlying47 rfl (fun w => Try.sizeOf3 w) rfl rfl ?_
          exact hK _ _ (Below.refl _ _) rfl
        · intro xv_ wx ρ hρ hwx hd K hK
          have e147 := (out2 hρ hs 5 147 rfl rfl rfl).trans (hd 5 rfl)
          have hc160 := elem_below hc160 hwx hl_hc160
          refine g_load rfl e147 Try.isAgg3 (by first | exact hc160 0 _ (by decide) rfl | (rw [Nat.add_assoc]; exact hc160 0 _ (by decide) rfl)) ?_
          exact hK _ _ (Below.refl _ _) rfl
        · intro xv_ wx ρ hρ hwx hd K hK
          have e1 : ρ (.tmp 1) = .pointer (some ⟨q2, 0, none⟩) := (hρ.inn 1 rfl).trans s1
          refine g_field (r := 9) rfl e1 Try.underlying32 rfl (fun w => Try.sizeOf3 w) rfl rfl ?_
          exact hK _ _ (Below.refl _ _) rfl
        · intro xv_ wx ρ hρ hwx hd K hK
          have e149 := (out2 hρ hs 7 149 rfl rfl rfl).trans (hd 7 rfl)
          have h_q2 := keep_below h_q2 hwx
          refine g_load rfl e149 Try.isAgg3 (box_cell h_q2 rfl) ?_
          exact hK _ _ (Below.refl _ _) rfl
        · intro xv_ wx ρ hρ hwx hd K hK
          have e148 := (out2 hρ hs 6 148 rfl rfl rfl).trans (hd 6 rfl)
          have e150 := (out2 hρ hs 8 150 rfl rfl rfl).trans (hd 8 rfl)
          refine g_geq rfl e148 e150 ?_
          exact hK _ _ (Below.refl _ _) rfl
      · intro x0_ w161 hb_w161 hr0
        replace h_q2 := keep_below h_q2 hb_w161
        replace hB := hB.trans (hb_w161.mono hB.size)
        clear hb_w161
        intro xv_ a83 hρ hsz hdf qx_ ql_ qk_ qlk_
        replace s1 : a83.eval (.tmp 1) = .pointer (some ⟨q2, 0, none⟩) := (hρ.inn 1 rfl).trans s1
        replace s2 : a83.eval (.tmp 2) = .bool false := (hρ.inn 2 rfl).trans s2
        replace s8 : a83.eval (.tmp 8) = .int .i64 ((k : Nat) : Int) := (hρ.inn 8 rfl).trans s8
        replace s139 : a83.eval (.tmp 139) = .bool true := (hρ.inn 139 rfl).trans s139
        have s151 : a83.eval (.tmp 151) = .bool (decide (b.made ≤ b.rs[k].f0)) := (hρ.out 9 151 rfl (by rw [hs.size]; decide)).trans ((qx_ 9 (by decide) rfl rfl).trans (hr0 9 (by decide) rfl rfl))
        replace hs : St 166 a83 := ⟨hsz.trans hs.size, hdf.trans hs.nodef⟩
        clear hρ hsz hdf qx_ ql_ qk_ qlk_
        refine hK156 _ _ ?_
        clear hK156
        by_cases hc162 : b.made ≤ b.rs[k].f0
        · replace s151 : a83.eval (.tmp 151) = .bool true := (s151).trans (congrArg Value.bool (decide_eq_true hc162))
          refine c_true s151 ?_
          refine wp_seq_k fun K163 hK163 => ?_
          refine wp_region_lit ?_
          refine q_v hs rfl rfl rfl (g_assign rfl rfl ?_)
          intro a84 p84
          have s2 : a84.eval (.tmp 2) = .bool false := p84.v
          refine wpList_nil ?_
          replace s1 := p84.k s1 rfl
          replace s8 := p84.k s8 rfl
          replace s139 := p84.k s139 rfl
          replace s151 := p84.k s151 rfl
          refine hK163 _ _ ?_
          clear hK163
          refine wp_ret ?_
          try dsimp only [Exit.then, Exit.inBlock]
          refine ret1 p84.s Try.results23 (res_tmp s2) ?_
          have hl164 : decide (b.ps.length = 8) = true := by exact decide_eq_true (by omega)
          have hl165 : decide (b.ls.length ≤ 8) = true := by exact decide_eq_true (by omega)
          have hl166 : decide (b.ds.length ≤ 5000) = true := by exact decide_eq_true (by omega)
          have hl167 : decide (b.qs.length ≤ 5000) = true := by exact decide_eq_true (by omega)
          have hat : (fun r => decide (r.f0 < b.made)) b.rs[k] = false := decide_eq_false (by omega)
          have hx168 : b.rs.all (fun r => decide (r.f0 < b.made)) = false := all_fail (P := fun r => decide (r.f0 < b.made)) hlt hat
          exact ⟨by unfold boOk; simp only [hc6, hl164, hl165, hc13, hc17, hl166, hl167, hc34, hc42, hps, hls, hds, hx168, Bool.and_true, Bool.true_and, Bool.and_false, Bool.false_and, Bool.or_true, Bool.true_or, Bool.or_false, Bool.false_or, Bool.not_true, Bool.not_false, Bool.and_self], hB⟩
        replace s151 : a83.eval (.tmp 151) = .bool false := (s151).trans (congrArg Value.bool (decide_eq_false hc162))
        refine c_false s151 ?_
        refine wp_skip ?_
        refine hK155 _ _ ?_
        clear hK155
        refine wp_region_lit ?_
        refine q_v hs rfl rfl rfl (g_move rfl s8 ?_)
        intro a84 p84
        refine q_v p84.s rfl rfl rfl (g_add (r := ((k + 1 : Nat) : Int)) rfl p84.v rfl (by omega) (by omega) ?_)
        intro a85 p85
        refine q_v p85.s rfl rfl rfl (g_assign rfl p85.v ?_)
        intro a86 p86
        refine wpList_nil ?_
        have kc83 := (((Kps.nil a83).u p84).u p85).u p86
        replace s1 := kc83.k s1 rfl
        replace s2 := kc83.k s2 rfl
        replace s8 := p86.v
        replace s139 := kc83.k s139 rfl
        replace s151 := kc83.k s151 rfl
        clear kc83
        refine show _ ∧ _ from ⟨⟨k + 1, p86.s, s1, s2, s8, hB, h_q2, (by omega), (all_step hlt hst (decide_eq_true (by omega)))⟩, ?_⟩
        show b.rs.length - (intOf (a86.eval (.tmp 8))).toNat < b.rs.length - (intOf (a76.eval (.tmp 8))).toNat
        rw [s8, mu151]
        simp only [intOf]
        omega
    replace s139 : a82.eval (.tmp 139) = .bool false := (s139).trans (congrArg Value.bool (decide_eq_false hc154))
    refine c_false s139 ?_
    refine wp_exit ?_
    refine hK147 _ _ ?_
    clear hK147
    refine wp_seq_k fun K169 hK169 => ?_
    refine wp_seq_k fun K170 hK170 => ?_
    have hrs : b.rs.all (fun r => decide (r.f0 < b.made)) = true := all_done (by omega) hst
    refine wp_region_lit ?_
    refine q_v p82.s rfl rfl rfl (g_assign rfl rfl ?_)
    intro a83 p83
    have s9 : a83.eval (.tmp 9) = .int .i64 0 := p83.v
    refine wpList_nil ?_
    replace s1 := p83.k s1 rfl
    replace s2 := p83.k s2 rfl
    refine hK170 _ _ ?_
    clear hK170
    refine wp_block ?_
    refine wp_loop (fun a wr => ∃ (k : Nat), (St 166 a) ∧ (a.eval (.tmp 1) = .pointer (some ⟨q2, 0, none⟩)) ∧ (a.eval (.tmp 2) = .bool false) ∧ (a.eval (.tmp 9) = .int .i64 ((k : Nat) : Int)) ∧ (Below w.heap.size w wr) ∧ (wr.heap[q2]? = some (.cells #[.int .i64 b.clk, .slice pA b.ps.length pc, .bool b.safe, .slice lA b.ls.length lc, .slice oA b.os.length oc, .slice dA b.ds.length dc, .int .i64 b.room, .slice rA b.rs.length rc, .slice xA b.xs.length xc, .int .i64 b.made, .int .i64 b.taken, .slice qA b.qs.length qc] 32 (0, 0))) ∧ (k ≤ b.qs.length) ∧ ((b.qs.take k).all (fun n => inB n 0 7) = true)) (fun a _ => b.qs.length - (intOf (a.eval (.tmp 9))).toNat) (⟨0, p83.s, s1, s2, s9, hB, h_q2, Nat.zero_le _, rfl⟩) ?_
    intro a84 w172 hIv
    obtain ⟨k, hs, s1, s2, s9, hB, h_q2, hk, hst⟩ := hIv
    have mu173 := s9
    refine wp_seq_k fun K174 hK174 => ?_
    refine wp_seq_k fun K175 hK175 => ?_
    refine wp_region_lit ?_
    refine q_v hs rfl rfl rfl (g_move rfl s9 ?_)
    intro a85 p85
    refine q_v p85.s rfl rfl rfl (g_field (r := 11) rfl (p85.k s1 rfl) Try.underlying32 rfl (fun w => Try.sizeOf24 w) rfl rfl ?_)
    intro a86 p86
    refine q_v p86.s rfl rfl rfl (g_load rfl p86.v Try.isAgg24 (box_cell h_q2 rfl) ?_)
    intro a87 p87
    refine q_v p87.s rfl rfl rfl (g_len (e := _) rfl Try.underlying24 p87.v ?_)
    intro a88 p88
    refine q_v p88.s rfl rfl rfl (g_lss rfl (p88.k (p87.k (p86.k p85.v rfl) rfl) rfl) p88.v ?_)
    intro a89 p89
    refine wpList_nil ?_
    have kc84 := (((((Kps.nil a84).u p85).u p86).u p87).u p88).u p89
    replace s1 := kc84.k s1 rfl
    replace s2 := kc84.k s2 rfl
    replace s9 := kc84.k s9 rfl
    replace s156 := p89.v
    clear kc84
    refine hK175 _ _ ?_
    clear hK175
    by_cases hc176 : ((k : Nat) : Int) < ((b.qs.length : Nat) : Int)
    · replace s156 : a89.eval (.tmp 156) = .bool true := (s156).trans (congrArg Value.bool (decide_eq_true hc176))
      refine c_true s156 ?_
      refine wp_skip ?_
      refine hK174 _ _ ?_
      clear hK174
      refine wp_seq_k fun K177 hK177 => ?_
      refine wp_block ?_
      refine wp_seq_k fun K178 hK178 => ?_
      have hlt : k < b.qs.length := by omega
      refine wp_region_lit ?_
      refine q_v p89.s rfl rfl rfl (g_field (r := 11) rfl s1 Try.underlying32 rfl (fun w => Try.sizeOf24 w) rfl rfl ?_)
      intro a90 p90
      refine q_v p90.s rfl rfl rfl (g_load rfl p90.v Try.isAgg24 (box_cell h_q2 rfl) ?_)
      intro a91 p91
      refine q_v p91.s rfl rfl rfl (g_move rfl (p91.k (p90.k s9 rfl) rfl) ?_)
      intro a92 p92
      obtain ⟨b179, o180, hA181, hl_hc182, hc182⟩ := Rd.get cI_len (hr_q.below hB) rfl (i := k) (by omega)
      refine q_v p92.s rfl rfl rfl (g_index (r := o180 + k * 1) (k := k) rfl ((p92.k p91.v rfl).trans (slice_at hA181)) p92.v Try.underlying24 (fun w => Try.sizeOf3 w) (by omega) rfl ?_)
      intro a93 p93
      refine q_v p93.s rfl rfl rfl (g_load rfl p93.v Try.isAgg3 (by first | exact hc182 0 _ (by decide) rfl | (rw [Nat.add_assoc]; exact hc182 0 _ (by decide) rfl)) ?_)
      intro a94 p94
      refine q_v p94.s rfl rfl rfl ?_
      refine g_call rfl rfl Try.call58 (arr3 p94.v rfl rfl) ?_
      refine (l01In_any _ _ _ _).mono ?_
      rintro e w' ⟨rfl, rfl⟩
      refine ⟨_, rfl, ?_⟩
      intro a95 p95
      refine q_v p95.s rfl rfl rfl (g_not rfl p95.v ?_)
      intro a96 p96
      refine wpList_nil ?_
      have kc89 := (((((((Kps.nil a89).u p90).u p91).u p92).u p93).u p94).u p95).u p96
      replace s1 := kc89.k s1 rfl
      replace s2 := kc89.k s2 rfl
      replace s9 := kc89.k s9 rfl
      replace s156 := kc89.k s156 rfl
      replace s165 := p96.v
      clear kc89
      refine hK178 _ _ ?_
      clear hK178
      cases hc183 : inB b.qs[k] 0 7
      · replace s165 : a96.eval (.tmp 165) = .bool true := (s165).trans (congrArg (fun b => Value.bool (!b)) hc183)
        refine c_true s165 ?_
        refine wp_seq_k fun K184 hK184 => ?_
        refine wp_region_lit ?_
        refine q_v p96.s rfl rfl rfl (g_assign rfl rfl ?_)
        intro a97 p97
        have s2 : a97.eval (.tmp 2) = .bool false := p97.v
        refine wpList_nil ?_
        replace s1 := p97.k s1 rfl
        replace s9 := p97.k s9 rfl
        replace s156 := p97.k s156 rfl
        replace s165 := p97.k s165 rfl
        refine hK184 _ _ ?_
        clear hK184
        refine wp_ret ?_
        try dsimp only [Exit.then, Exit.inBlock]
        refine ret1 p97.s Try.results23 (res_tmp s2) ?_
        have hl185 : decide (b.ps.length = 8) = true := by exact decide_eq_true (by omega)
        have hl186 : decide (b.ls.length ≤ 8) = true := by exact decide_eq_true (by omega)
        have hl187 : decide (b.ds.length ≤ 5000) = true := by exact decide_eq_true (by omega)
        have hl188 : decide (b.qs.length ≤ 5000) = true := by exact decide_eq_true (by omega)
        have hat : (fun n => inB n 0 7) b.qs[k] = false := by skip; simp only [hc183, Bool.and_true, Bool.true_and, Bool.and_false, Bool.false_and, Bool.or_true, Bool.true_or, Bool.or_false, Bool.false_or, Bool.not_true, Bool.not_false, Bool.and_self]
        have hx189 : allB b.qs 0 7 = false := all_fail (P := fun n => inB n 0 7) hlt hat
        exact ⟨by unfold boOk; simp only [hc6, hl185, hl186, hc13, hc17, hl187, hl188, hc34, hc42, hps, hls, hds, hrs, hx189, Bool.and_true, Bool.true_and, Bool.and_false, Bool.false_and, Bool.or_true, Bool.true_or, Bool.or_false, Bool.false_or, Bool.not_true, Bool.not_false, Bool.and_self], hB⟩
      replace s165 : a96.eval (.tmp 165) = .bool false := (s165).trans (congrArg (fun b => Value.bool (!b)) hc183)
      refine c_false s165 ?_
      refine wp_skip ?_
      refine hK177 _ _ ?_
      clear hK177
      refine wp_region_lit ?_
      refine q_v p96.s rfl rfl rfl (g_move rfl s9 ?_)
      intro a97 p97
      refine q_v p97.s rfl rfl rfl (g_add (r := ((k + 1 : Nat) : Int)) rfl p97.v rfl (by omega) (by omega) ?_)
      intro a98 p98
      refine q_v p98.s rfl rfl rfl (g_assign rfl p98.v ?_)
      intro a99 p99
      refine wpList_nil ?_
      have kc96 := (((Kps.nil a96).u p97).u p98).u p99
      replace s1 := kc96.k s1 rfl
      replace s2 := kc96.k s2 rfl
      replace s9 := p99.v
      replace s156 := kc96.k s156 rfl
      replace s165 := kc96.k s165 rfl
      clear kc96
      have hat : (fun n => inB n 0 7) b.qs[k] = true := by skip; simp only [hc6, decide_eq_true hc8, decide_eq_false hc9, hc13, hc17, decide_eq_false hc21, decide_eq_false hc26, hc34, hc42, decide_eq_false hc55, hps, decide_eq_false hc76, hls, decide_eq_false hc115, hds, decide_eq_false hc154, hrs, decide_eq_true hc176, hc183, Bool.and_true, Bool.true_and, Bool.and_false, Bool.false_and, Bool.or_true, Bool.true_or, Bool.or_false, Bool.false_or, Bool.not_true, Bool.not_false, Bool.and_self]
      refine show _ ∧ _ from ⟨⟨k + 1, p99.s, s1, s2, s9, hB, h_q2, (by omega), (all_step hlt hst hat)⟩, ?_⟩
      show b.qs.length - (intOf (a99.eval (.tmp 9))).toNat < b.qs.length - (intOf (a84.eval (.tmp 9))).toNat
      rw [s9, mu173]
      simp only [intOf]
      omega
    replace s156 : a89.eval (.tmp 156) = .bool false := (s156).trans (congrArg Value.bool (decide_eq_false hc176))
    refine c_false s156 ?_
    refine wp_exit ?_
    refine hK169 _ _ ?_
    clear hK169
    refine wp_seq_k fun K190 hK190 => ?_
    have hqs : allB b.qs 0 7 = true := all_done (by omega) hst
    refine wp_region_lit ?_
    refine q_v p89.s rfl rfl rfl (g_assign rfl rfl ?_)
    intro a90 p90
    have s2 : a90.eval (.tmp 2) = .bool true := p90.v
    refine wpList_nil ?_
    refine hK190 _ _ ?_
    clear hK190
    refine wp_ret ?_
    try dsimp only [Exit.then, Exit.inBlock]
    refine ret1 p90.s Try.results23 (res_tmp s2) ?_
    have hl191 : decide (b.ps.length = 8) = true := by exact decide_eq_true (by omega)
    have hl192 : decide (b.ls.length ≤ 8) = true := by exact decide_eq_true (by omega)
    have hl193 : decide (b.ds.length ≤ 5000) = true := by exact decide_eq_true (by omega)
    have hl194 : decide (b.qs.length ≤ 5000) = true := by exact decide_eq_true (by omega)
    exact ⟨by unfold boOk; simp only [hc6, hl191, hl192, hc13, hc17, hl193, hl194, hc34, hc42, hps, hls, hds, hrs, hqs, Bool.and_true, Bool.true_and, Bool.and_false, Bool.false_and, Bool.or_true, Bool.true_or, Bool.or_false, Bool.false_or, Bool.not_true, Bool.not_false, Bool.and_self], hB⟩
  have s18 : a11.eval (.tmp 18) = .bool true := (p11.v).trans (congrArg (fun b => Value.bool (!b)) (decide_eq_false hc8))
  replace s19 : a12.eval (.tmp 19) = .bool true := (s19).trans (congrArg (fun b => Value.bool (!b)) (decide_eq_false hc8))
  have s20 : a13.eval (.tmp 20) = .bool true := (p13.v).trans (congrArg (fun b => Value.bool (!b)) (decide_eq_false hc8))
  refine q_s p13.s rfl rfl s20 rfl rfl ?_
  intro a14 p14
  refine q_s p14.s rfl rfl (p14.k s20 rfl) rfl rfl ?_
  intro a15 p15
  refine q_s p15.s rfl rfl (p15.k (p14.k s20 rfl) rfl) rfl rfl ?_
  intro a16 p16
  refine q_s p16.s rfl rfl (p16.k (p15.k (p14.k s20 rfl) rfl) rfl) rfl rfl ?_
  intro a17 p17
  refine q_v p17.s rfl rfl rfl (g_pick_t rfl (p17.k (p16.k (p15.k (p14.k s20 rfl) rfl) rfl) rfl) rfl ?_)
  intro a18 p18
  have s25 : a18.eval (.tmp 25) = .bool true := p18.v
  refine q_v p18.s rfl rfl rfl (g_move rfl s25 ?_)
  intro a19 p19
  refine q_s p19.s rfl rfl p19.v rfl rfl ?_
  intro a20 p20
  refine q_s p20.s rfl rfl (p20.k p19.v rfl) rfl rfl ?_
  intro a21 p21
  refine q_s p21.s rfl rfl (p21.k (p20.k p19.v rfl) rfl) rfl rfl ?_
  intro a22 p22
  refine q_s p22.s rfl rfl (p22.k (p21.k (p20.k p19.v rfl) rfl) rfl) rfl rfl ?_
  intro a23 p23
  refine q_v p23.s rfl rfl rfl (g_pick_t rfl (p23.k (p22.k (p21.k (p20.k p19.v rfl) rfl) rfl) rfl) rfl ?_)
  intro a24 p24
  have s31 : a24.eval (.tmp 31) = .bool true := p24.v
  refine q_v p24.s rfl rfl rfl (g_move rfl s31 ?_)
  intro a25 p25
  refine q_s p25.s rfl rfl p25.v rfl rfl ?_
  intro a26 p26
  refine q_s p26.s rfl rfl (p26.k p25.v rfl) rfl rfl ?_
  intro a27 p27
  refine q_s p27.s rfl rfl (p27.k (p26.k p25.v rfl) rfl) rfl rfl ?_
  intro a28 p28
  refine q_s p28.s rfl rfl (p28.k (p27.k (p26.k p25.v rfl) rfl) rfl) rfl rfl ?_
  intro a29 p29
  refine q_v p29.s rfl rfl rfl (g_pick_t rfl (p29.k (p28.k (p27.k (p26.k p25.v rfl) rfl) rfl) rfl) rfl ?_)
  intro a30 p30
  have s37 : a30.eval (.tmp 37) = .bool true := p30.v
  refine q_v p30.s rfl rfl rfl (g_move rfl s37 ?_)
  intro a31 p31
  refine q_s p31.s rfl rfl p31.v rfl rfl ?_
  intro a32 p32
  refine q_s p32.s rfl rfl (p32.k p31.v rfl) rfl rfl ?_
  intro a33 p33
  refine q_s p33.s rfl rfl (p33.k (p32.k p31.v rfl) rfl) rfl rfl ?_
  intro a34 p34
  refine q_s p34.s rfl rfl (p34.k (p33.k (p32.k p31.v rfl) rfl) rfl) rfl rfl ?_
  intro a35 p35
  refine q_v p35.s rfl rfl rfl (g_pick_t rfl (p35.k (p34.k (p33.k (p32.k p31.v rfl) rfl) rfl) rfl) rfl ?_)
  intro a36 p36
  have s43 : a36.eval (.tmp 43) = .bool true := p36.v
  refine q_v p36.s rfl rfl rfl (g_move rfl s43 ?_)
  intro a37 p37
  refine q_s p37.s rfl rfl p37.v rfl rfl ?_
  intro a38 p38
  refine q_s p38.s rfl rfl (p38.k p37.v rfl) rfl rfl ?_
  intro a39 p39
  refine q_s p39.s rfl rfl (p39.k (p38.k p37.v rfl) rfl) rfl rfl ?_
  intro a40 p40
  refine q_s p40.s rfl rfl (p40.k (p39.k (p38.k p37.v rfl) rfl) rfl) rfl rfl ?_
  intro a41 p41
  refine q_v p41.s rfl rfl rfl (g_pick_t rfl (p41.k (p40.k (p39.k (p38.k p37.v rfl) rfl) rfl) rfl) rfl ?_)
  intro a42 p42
  have s49 : a42.eval (.tmp 49) = .bool true := p42.v
  refine q_v p42.s rfl rfl rfl (g_move rfl s49 ?_)
  intro a43 p43
  refine q_s p43.s rfl rfl p43.v rfl rfl ?_
  intro a44 p44
  refine q_s p44.s rfl rfl (p44.k p43.v rfl) rfl rfl ?_
  intro a45 p45
  refine q_s p45.s rfl rfl (p45.k (p44.k p43.v rfl) rfl) rfl rfl ?_
  intro a46 p46
  refine q_s p46.s rfl rfl (p46.k (p45.k (p44.k p43.v rfl) rfl) rfl) rfl rfl ?_
  intro a47 p47
  refine q_v p47.s rfl rfl rfl (g_pick_t rfl (p47.k (p46.k (p45.k (p44.k p43.v rfl) rfl) rfl) rfl) rfl ?_)
  intro a48 p48
  have s55 : a48.eval (.tmp 55) = .bool true := p48.v
  refine q_v p48.s rfl rfl rfl (g_move rfl s55 ?_)
  intro a49 p49
  refine q_s p49.s rfl rfl p49.v rfl rfl ?_
  intro a50 p50
  refine q_s p50.s rfl rfl (p50.k p49.v rfl) rfl rfl ?_
  intro a51 p51
  refine q_s p51.s rfl rfl (p51.k (p50.k p49.v rfl) rfl) rfl rfl ?_
  intro a52 p52
  refine q_v p52.s rfl rfl rfl (g_pick_t rfl (p52.k (p51.k (p50.k p49.v rfl) rfl) rfl) rfl ?_)
  intro a53 p53
  have s60 : a53.eval (.tmp 60) = .bool true := p53.v
  refine wpList_nil ?_
  have kc2 := (((((((((((((((((((((((((((((((((((((((((((((((((((Kps.nil a2).u p3).u p4).u p5).u p6).u p7).u p8).u p9).u p10).u p11).u p12).u p13).u p14).u p15).u p16).u p17).u p18).u p19).u p20).u p21).u p22).u p23).u p24).u p25).u p26).u p27).u p28).u p29).u p30).u p31).u p32).u p33).u p34).u p35).u p36).u p37).u p38).u p39).u p40).u p41).u p42).u p43).u p44).u p45).u p46).u p47).u p48).u p49).u p50).u p51).u p52).u p53
  replace s1 := kc2.k s1 rfl
  replace s2 := kc2.k s2 rfl
  clear kc2
  refine hK5 _ _ ?_
  clear hK5
  refine c_true s60 ?_
  refine wp_seq_k fun K195 hK195 => ?_
  refine wp_region_lit ?_
  refine q_v p53.s rfl rfl rfl (g_assign rfl rfl ?_)
  intro a54 p54
  have s2 : a54.eval (.tmp 2) = .bool false := p54.v
  refine wpList_nil ?_
  replace s1 := p54.k s1 rfl
  refine hK195 _ _ ?_
  clear hK195
  refine wp_ret ?_
  try dsimp only [Exit.then, Exit.inBlock]
  refine ret1 p54.s Try.results23 (res_tmp s2) ?_
  have hl196 : decide (b.ps.length = 8) = false := by exact decide_eq_false (by omega)
  exact ⟨by unfold boOk; simp only [hc6, hl196, Bool.and_true, Bool.true_and, Bool.and_false, Bool.false_and, Bool.or_true, Bool.true_or, Bool.or_false, Bool.false_or, Bool.not_true, Bool.not_false, Bool.and_self], hB⟩
end Go.Proofs.Ytoccapmoehdohaa
