/- Contracts: orders that wait, and boards that are valid, in the program and in the reference. No condition. -/
import Derived.Test.YtoccapmoehdohaaBdLaw
import Derived.Test.YtoccapmoehdohaaAllB
import Derived.Test.YtoccapmoehdohaaFlowPart
import Derived.Test.YtoccapmoehdohaaFlowQ
import Derived.Test.YtoccapmoehdohaaFlowTxt
namespace Go.Proofs.Ytoccapmoehdohaa
open Go.RowKit
set_option linter.unusedSimpArgs false
set_option linter.unusedVariables false

set_option maxRecDepth 100000 in
set_option maxHeartbeats 4000000 in
theorem indexOfOrder_any (A : Option Addr) (n c : Nat) (os : List EWaiting) (m : Int) (w : World) (hn : os.length = n) (hb : n ≤ 1048577) (hr_o : Rd w 5 A n (os.flatMap cWaiting)) :
    Calls Try.prog 45 #[.slice A n c, .int .i64 m] w fun e w' => e = .returned (.int .i64 (idxO os m)) ∧ Below w.heap.size w w' := by
  refine enter 20 Try.func45 rfl rfl (Nat.le_of_ble_eq_true rfl) ?_
  intro a0 hs hargs
  have s0 : a0.eval (.tmp 0) = .slice A n c := hargs 0 _ rfl
  have s1 : a0.eval (.tmp 1) = .int .i64 m := hargs 1 _ rfl
  clear hargs
  have hB : Below w.heap.size w w := Below.refl _ _
  refine wp_seq_k fun K1 hK1 => ?_
  refine wp_region_lit ?_
  refine q_v hs rfl rfl rfl (g_assign rfl rfl ?_)
  intro a1 p1
  have s4 : a1.eval (.tmp 4) = .int .i64 0 := p1.v
  refine wpList_nil ?_
  replace s0 := p1.k s0 rfl
  replace s1 := p1.k s1 rfl
  refine hK1 _ _ ?_
  clear hK1
  refine wp_seq_k fun K2 hK2 => ?_
  refine wp_seq_k fun K3 hK3 => ?_
  refine wp_region_lit ?_
  refine q_v p1.s rfl rfl rfl (g_move rfl s0 ?_)
  intro a2 p2
  refine q_v p2.s rfl rfl rfl (g_len (e := _) rfl Try.underlying26 p2.v ?_)
  intro a3 p3
  refine q_v p3.s rfl rfl rfl (g_move rfl rfl ?_)
  intro a4 p4
  have s9 : a4.eval (.tmp 9) = .int .i64 0 := p4.v
  refine wpList_nil ?_
  have kc1 := (((Kps.nil a1).u p2).u p3).u p4
  replace s1 := kc1.k s1 rfl
  replace s4 := kc1.k s4 rfl
  replace s7 := p4.k (p3.k p2.v rfl) rfl
  replace s8 := p4.k p3.v rfl
  clear kc1
  refine hK3 _ _ ?_
  clear hK3
  refine wp_block ?_
  refine wp_loop (fun a wr => ∃ (k : Nat), (St 20 a) ∧ (a.eval (.tmp 1) = .int .i64 m) ∧ (a.eval (.tmp 4) = .int .i64 0) ∧ (a.eval (.tmp 7) = .slice A n c) ∧ (a.eval (.tmp 8) = .int .i64 ((n : Nat) : Int)) ∧ (a.eval (.tmp 9) = .int .i64 ((k : Nat) : Int)) ∧ (Below w.heap.size w wr) ∧ (k ≤ os.length) ∧ (∀ j (_ : j < k) (h : j < os.length), os[j].f0 ≠ m)) (fun a _ => os.length - (intOf (a.eval (.tmp 9))).toNat) (⟨0, p4.s, s1, s4, s7, s8, s9, hB, Nat.zero_le _, (fun j hj => by omega)⟩) ?_
  intro a5 w5 hIv
  obtain ⟨k, hs, s1, s4, s7, s8, s9, hB, hk, hno⟩ := hIv
  have mu6 := s9
  refine wp_seq_k fun K7 hK7 => ?_
  refine wp_region_lit ?_
  refine q_v hs rfl rfl rfl (g_lss rfl s9 s8 ?_)
  intro a6 p6
  refine wpList_nil ?_
  replace s1 := p6.k s1 rfl
  replace s4 := p6.k s4 rfl
  replace s7 := p6.k s7 rfl
  replace s8 := p6.k s8 rfl
  replace s9 := p6.k s9 rfl
  replace s10 := p6.v
  refine hK7 _ _ ?_
  clear hK7
  refine wp_seq_k fun K8 hK8 => ?_
  by_cases hc9 : ((k : Nat) : Int) < ((n : Nat) : Int)
  · replace s10 : a6.eval (.tmp 10) = .bool true := (s10).trans (congrArg Value.bool (decide_eq_true hc9))
    refine c_true s10 ?_
    refine wp_skip ?_
    refine hK8 _ _ ?_
    clear hK8
    refine wp_seq_k fun K10 hK10 => ?_
    refine wp_block ?_
    refine wp_seq_k fun K11 hK11 => ?_
    have hlt : k < os.length := by omega
    refine wp_region_lit ?_
    refine q_v p6.s rfl rfl rfl (g_move rfl s9 ?_)
    intro a7 p7
    obtain ⟨b12, o13, hA14, hl_hc15, hc15⟩ := Rd.get cWaiting_len (hr_o.below hB) (Eq.symm hn) (i := k) (by omega)
    refine q_v p7.s rfl rfl rfl (g_index (r := o13 + k * 5) (k := k) rfl ((p7.k s7 rfl).trans (slice_at hA14)) (p7.k s9 rfl) Try.underlying26 (fun w => Try.sizeOf45 w) (by omega) rfl ?_)
    intro a8 p8
    refine q_v p8.s rfl rfl rfl (g_loadA (l := cWaiting os[k]) rfl p8.v Try.isAgg45 Try.sizeOf45 rfl (fun j u hu => by rw [Nat.add_assoc]; exact hc15 j u (by have := (List.getElem?_eq_some_iff.1 hu).1; exact this) hu) ?_)
    intro a9 p9
    refine q_v p9.s rfl rfl rfl ?_
    refine g_alloc rfl Try.zeroValue45 rfl ?_
    intro q16 w17 N_q16
    have g_q16 : GeB w.heap.size q16 := ⟨Nat.le_trans hB.size N_q16.lo⟩
    replace hB := below_new hB hB.size N_q16
    have h_q16 := N_q16.here
    clear N_q16
    intro a10 p10
    refine q_v p10.s rfl rfl rfl (g_assign rfl (p10.k (p9.k (p8.k p7.v rfl) rfl) rfl) ?_)
    intro a11 p11
    refine q_eff rfl rfl ?_
    refine g_storeB rfl (p11.k p10.v rfl) (p11.k (p10.k p9.v rfl) rfl) Try.sizeOf45 rfl rfl h_q16 rfl ?_
    intro w18 W_w18
    replace h_q16 := W_w18.here
    replace hB := below_wrote hB hB.size W_w18 g_q16.le
    clear W_w18
    refine wpList_nil ?_
    have kc6 := (((((Kps.nil a6).u p7).u p8).u p9).u p10).u p11
    replace s1 := kc6.k s1 rfl
    replace s4 := kc6.k s4 rfl
    replace s7 := kc6.k s7 rfl
    replace s8 := kc6.k s8 rfl
    replace s9 := kc6.k s9 rfl
    replace s10 := kc6.k s10 rfl
    replace s6 := p11.k p10.v rfl
    replace s5 := p11.v
    clear kc6
    refine hK11 _ _ ?_
    clear hK11
    refine wp_seq_k fun K19 hK19 => ?_
    refine wp_region_lit ?_
    refine q_v p11.s rfl rfl rfl (g_field (r := 0) rfl s6 Try.underlying45 rfl (fun w => Try.sizeOf3 w) rfl rfl ?_)
    intro a12 p12
    refine q_v p12.s rfl rfl rfl (g_load rfl p12.v Try.isAgg3 (box_cell h_q16 rfl) ?_)
    intro a13 p13
    refine q_v p13.s rfl rfl rfl (g_move rfl (p13.k (p12.k s1 rfl) rfl) ?_)
    intro a14 p14
    refine q_v p14.s rfl rfl rfl (g_eql rfl (p14.k p13.v rfl) p14.v ?_)
    intro a15 p15
    refine wpList_nil ?_
    have kc11 := ((((Kps.nil a11).u p12).u p13).u p14).u p15
    replace s1 := kc11.k s1 rfl
    replace s4 := kc11.k s4 rfl
    replace s7 := kc11.k s7 rfl
    replace s8 := kc11.k s8 rfl
    replace s9 := kc11.k s9 rfl
    replace s10 := kc11.k s10 rfl
    replace s6 := kc11.k s6 rfl
    replace s5 := kc11.k s5 rfl
    replace s17 := p15.v
    clear kc11
    refine hK19 _ _ ?_
    clear hK19
    by_cases he : os[k].f0 = m
    · replace s17 : a15.eval (.tmp 17) = .bool true := (s17).trans (congrArg Value.bool (decide_eq_true he))
      refine c_true s17 ?_
      refine wp_seq_k fun K20 hK20 => ?_
      refine wp_region_lit ?_
      refine q_v p15.s rfl rfl rfl (g_move rfl s5 ?_)
      intro a16 p16
      refine q_v p16.s rfl rfl rfl (g_assign rfl p16.v ?_)
      intro a17 p17
      refine wpList_nil ?_
      replace s1 := p17.k (p16.k s1 rfl) rfl
      replace s4 := p17.v
      replace s7 := p17.k (p16.k s7 rfl) rfl
      replace s8 := p17.k (p16.k s8 rfl) rfl
      replace s9 := p17.k (p16.k s9 rfl) rfl
      replace s10 := p17.k (p16.k s10 rfl) rfl
      replace s6 := p17.k (p16.k s6 rfl) rfl
      replace s5 := p17.k (p16.k s5 rfl) rfl
      replace s17 := p17.k (p16.k s17 rfl) rfl
      refine hK20 _ _ ?_
      clear hK20
      refine wp_ret ?_
      try dsimp only [Exit.then, Exit.inBlock]
      refine ret1 p17.s Try.results45 (res_tmp s4) ?_
      exact ⟨by rw [idxO_at hlt he (fun j hj => hno j hj (by omega))], hB⟩
    replace s17 : a15.eval (.tmp 17) = .bool false := (s17).trans (congrArg Value.bool (decide_eq_false he))
    refine c_false s17 ?_
    refine wp_skip ?_
    refine hK10 _ _ ?_
    clear hK10
    refine wp_region_lit ?_
    refine q_v p15.s rfl rfl rfl (g_add (r := ((k + 1 : Nat) : Int)) rfl s9 rfl (by omega) (by omega) ?_)
    intro a16 p16
    refine q_v p16.s rfl rfl rfl (g_move rfl p16.v ?_)
    intro a17 p17
    refine wpList_nil ?_
    replace s1 := p17.k (p16.k s1 rfl) rfl
    replace s4 := p17.k (p16.k s4 rfl) rfl
    replace s7 := p17.k (p16.k s7 rfl) rfl
    replace s8 := p17.k (p16.k s8 rfl) rfl
    replace s9 := p17.v
    replace s10 := p17.k (p16.k s10 rfl) rfl
    replace s6 := p17.k (p16.k s6 rfl) rfl
    replace s5 := p17.k (p16.k s5 rfl) rfl
    replace s17 := p17.k (p16.k s17 rfl) rfl
    refine show _ ∧ _ from ⟨⟨k + 1, p17.s, s1, s4, s7, s8, s9, hB, (by omega), (fun j hj h8 => (Nat.lt_succ_iff_lt_or_eq.1 hj).elim (fun h9 => hno j h9 h8) (fun h9 => by subst h9; exact he))⟩, ?_⟩
    show os.length - (intOf (a17.eval (.tmp 9))).toNat < os.length - (intOf (a5.eval (.tmp 9))).toNat
    rw [s9, mu6]
    simp only [intOf]
    omega
  replace s10 : a6.eval (.tmp 10) = .bool false := (s10).trans (congrArg Value.bool (decide_eq_false hc9))
  refine c_false s10 ?_
  refine wp_exit ?_
  refine hK2 _ _ ?_
  clear hK2
  refine wp_seq_k fun K21 hK21 => ?_
  refine wp_region_lit ?_
  refine q_v p6.s rfl rfl rfl (g_assign rfl rfl ?_)
  intro a7 p7
  have s4 : a7.eval (.tmp 4) = .int .i64 (-1) := p7.v
  refine wpList_nil ?_
  refine hK21 _ _ ?_
  clear hK21
  refine wp_ret ?_
  try dsimp only [Exit.then, Exit.inBlock]
  refine ret1 p7.s Try.results45 (res_tmp s4) ?_
  exact ⟨by rw [idxO_none (fun j hj => hno j (by omega) hj)], hB⟩
set_option maxRecDepth 100000 in
set_option maxHeartbeats 4000000 in
theorem ordersOk_any (A : Option Addr) (n c : Nat) (os : List EWaiting) (t : Int) (w : World) (hn : os.length = n) (hb : n ≤ 1048577) (ht0 : 0 ≤ t) (ht1 : t ≤ 65535) (hr_o : Rd w 5 A n (os.flatMap cWaiting)) :
    Calls Try.prog 52 #[.slice A n c, .int .i64 t] w fun e w' => e = .returned (.bool (osOk t os)) ∧ Below w.heap.size w w' := by
  refine enter 69 Try.func52 rfl rfl (Nat.le_of_ble_eq_true rfl) ?_
  intro a0 hs hargs
  have s0 : a0.eval (.tmp 0) = .slice A n c := hargs 0 _ rfl
  have s1 : a0.eval (.tmp 1) = .int .i64 t := hargs 1 _ rfl
  clear hargs
  have hB : Below w.heap.size w w := Below.refl _ _
  refine wp_seq_k fun K1 hK1 => ?_
  refine wp_region_lit ?_
  refine q_v hs rfl rfl rfl (g_assign rfl rfl ?_)
  intro a1 p1
  have s4 : a1.eval (.tmp 4) = .bool false := p1.v
  refine wpList_nil ?_
  replace s0 := p1.k s0 rfl
  replace s1 := p1.k s1 rfl
  refine hK1 _ _ ?_
  clear hK1
  refine wp_seq_k fun K2 hK2 => ?_
  refine wp_seq_k fun K3 hK3 => ?_
  refine wp_region_lit ?_
  refine q_v p1.s rfl rfl rfl (g_move rfl s0 ?_)
  intro a2 p2
  refine q_v p2.s rfl rfl rfl (g_len (e := _) rfl Try.underlying26 p2.v ?_)
  intro a3 p3
  refine q_v p3.s rfl rfl rfl (g_gtr rfl p3.v rfl ?_)
  intro a4 p4
  refine wpList_nil ?_
  have kc1 := (((Kps.nil a1).u p2).u p3).u p4
  replace s0 := kc1.k s0 rfl
  replace s1 := kc1.k s1 rfl
  replace s4 := kc1.k s4 rfl
  replace s10 := p4.v
  clear kc1
  refine hK3 _ _ ?_
  clear hK3
  by_cases hc4 : 40 < ((n : Nat) : Int)
  · replace s10 : a4.eval (.tmp 10) = .bool true := (s10).trans (congrArg Value.bool (decide_eq_true hc4))
    refine c_true s10 ?_
    refine wp_seq_k fun K5 hK5 => ?_
    refine wp_region_lit ?_
    refine q_v p4.s rfl rfl rfl (g_assign rfl rfl ?_)
    intro a5 p5
    have s4 : a5.eval (.tmp 4) = .bool false := p5.v
    refine wpList_nil ?_
    replace s0 := p5.k s0 rfl
    replace s1 := p5.k s1 rfl
    refine hK5 _ _ ?_
    clear hK5
    refine wp_ret ?_
    try dsimp only [Exit.then, Exit.inBlock]
    refine ret1 p5.s Try.results52 (res_tmp s4) ?_
    exact ⟨by unfold osOk; rw [decide_eq_false (by omega : ¬ os.length ≤ 40)]; rfl, hB⟩
  replace s10 : a4.eval (.tmp 10) = .bool false := (s10).trans (congrArg Value.bool (decide_eq_false hc4))
  refine c_false s10 ?_
  refine wp_skip ?_
  refine hK2 _ _ ?_
  clear hK2
  refine wp_seq_k fun K6 hK6 => ?_
  refine wp_seq_k fun K7 hK7 => ?_
  refine wp_region_lit ?_
  refine q_v p4.s rfl rfl rfl (g_move rfl s0 ?_)
  intro a5 p5
  refine q_v p5.s rfl rfl rfl (g_len (e := _) rfl Try.underlying26 p5.v ?_)
  intro a6 p6
  refine q_v p6.s rfl rfl rfl (g_move rfl rfl ?_)
  intro a7 p7
  have s13 : a7.eval (.tmp 13) = .int .i64 0 := p7.v
  refine wpList_nil ?_
  have kc4 := (((Kps.nil a4).u p5).u p6).u p7
  replace s0 := kc4.k s0 rfl
  replace s1 := kc4.k s1 rfl
  replace s4 := kc4.k s4 rfl
  replace s11 := p7.k (p6.k p5.v rfl) rfl
  replace s12 := p7.k p6.v rfl
  clear kc4
  refine hK7 _ _ ?_
  clear hK7
  refine wp_block ?_
  refine wp_loop (fun a wr => ∃ (k : Nat), (St 69 a) ∧ (a.eval (.tmp 0) = .slice A n c) ∧ (a.eval (.tmp 1) = .int .i64 t) ∧ (a.eval (.tmp 4) = .bool false) ∧ (a.eval (.tmp 11) = .slice A n c) ∧ (a.eval (.tmp 12) = .int .i64 ((n : Nat) : Int)) ∧ (a.eval (.tmp 13) = .int .i64 ((k : Nat) : Int)) ∧ (Below w.heap.size w wr) ∧ (k ≤ os.length) ∧ (osTo t os k = true)) (fun a _ => os.length - (intOf (a.eval (.tmp 13))).toNat) (⟨0, p7.s, s0, s1, s4, s11, s12, s13, hB, Nat.zero_le _, rfl⟩) ?_
  intro a8 w9 hIv
  obtain ⟨k, hs, s0, s1, s4, s11, s12, s13, hB, hk, hst⟩ := hIv
  have mu10 := s13
  refine wp_seq_k fun K11 hK11 => ?_
  refine wp_region_lit ?_
  refine q_v hs rfl rfl rfl (g_lss rfl s13 s12 ?_)
  intro a9 p9
  refine wpList_nil ?_
  replace s0 := p9.k s0 rfl
  replace s1 := p9.k s1 rfl
  replace s4 := p9.k s4 rfl
  replace s11 := p9.k s11 rfl
  replace s12 := p9.k s12 rfl
  replace s13 := p9.k s13 rfl
  replace s14 := p9.v
  refine hK11 _ _ ?_
  clear hK11
  refine wp_seq_k fun K12 hK12 => ?_
  by_cases hc13 : ((k : Nat) : Int) < ((n : Nat) : Int)
  · replace s14 : a9.eval (.tmp 14) = .bool true := (s14).trans (congrArg Value.bool (decide_eq_true hc13))
    refine c_true s14 ?_
    refine wp_skip ?_
    refine hK12 _ _ ?_
    clear hK12
    refine wp_seq_k fun K14 hK14 => ?_
    refine wp_block ?_
    refine wp_seq_k fun K15 hK15 => ?_
    have hlt : k < os.length := by omega
    refine wp_region_lit ?_
    refine q_v p9.s rfl rfl rfl (g_move rfl s13 ?_)
    intro a10 p10
    obtain ⟨b16, o17, hA18, hl_hc19, hc19⟩ := Rd.get cWaiting_len (hr_o.below hB) (Eq.symm hn) (i := k) (by omega)
    refine q_v p10.s rfl rfl rfl (g_index (r := o17 + k * 5) (k := k) rfl ((p10.k s11 rfl).trans (slice_at hA18)) (p10.k s13 rfl) Try.underlying26 (fun w => Try.sizeOf45 w) (by omega) rfl ?_)
    intro a11 p11
    refine q_v p11.s rfl rfl rfl (g_loadA (l := cWaiting os[k]) rfl p11.v Try.isAgg45 Try.sizeOf45 rfl (fun j u hu => by rw [Nat.add_assoc]; exact hc19 j u (by have := (List.getElem?_eq_some_iff.1 hu).1; exact this) hu) ?_)
    intro a12 p12
    refine q_v p12.s rfl rfl rfl ?_
    refine g_alloc rfl Try.zeroValue45 rfl ?_
    intro q20 w21 N_q20
    have g_q20 : GeB w.heap.size q20 := ⟨Nat.le_trans hB.size N_q20.lo⟩
    replace hB := below_new hB hB.size N_q20
    have h_q20 := N_q20.here
    clear N_q20
    intro a13 p13
    refine q_v p13.s rfl rfl rfl (g_assign rfl (p13.k (p12.k (p11.k p10.v rfl) rfl) rfl) ?_)
    intro a14 p14
    refine q_eff rfl rfl ?_
    refine g_storeB rfl (p14.k p13.v rfl) (p14.k (p13.k p12.v rfl) rfl) Try.sizeOf45 rfl rfl h_q20 rfl ?_
    intro w22 W_w22
    replace h_q20 := W_w22.here
    replace hB := below_wrote hB hB.size W_w22 g_q20.le
    clear W_w22
    refine wpList_nil ?_
    have kc9 := (((((Kps.nil a9).u p10).u p11).u p12).u p13).u p14
    replace s0 := kc9.k s0 rfl
    replace s1 := kc9.k s1 rfl
    replace s4 := kc9.k s4 rfl
    replace s11 := kc9.k s11 rfl
    replace s12 := kc9.k s12 rfl
    replace s13 := kc9.k s13 rfl
    replace s14 := kc9.k s14 rfl
    replace s6 := p14.k p13.v rfl
    replace s5 := p14.v
    clear kc9
    refine hK15 _ _ ?_
    clear hK15
    refine wp_seq_k fun K23 hK23 => ?_
    refine wp_seq_k fun K24 hK24 => ?_
    refine wp_region_lit ?_
    refine q_v p14.s rfl rfl rfl (g_field (r := 1) rfl s6 Try.underlying45 rfl (fun w => Try.sizeOf40 w) rfl rfl ?_)
    intro a15 p15
    refine q_v p15.s rfl rfl rfl (g_loadA (l := [.int .i64 (os[k].f1), .int .i64 (os[k].f2), .int .i64 (os[k].f3), .int .i64 (os[k].f4)]) rfl p15.v Try.isAgg40 Try.sizeOf40 rfl (box_part h_q20 rfl) ?_)
    intro a16 p16
    refine q_v p16.s rfl rfl rfl ?_
    refine g_call rfl rfl Try.call40 (arr1 p16.v) ?_
    refine (orderOk_any _ _ _ _ _).mono ?_
    rintro e w26 ⟨rfl, hb25⟩
    refine ⟨_, rfl, ?_⟩
    replace h_q20 := keep_below h_q20 hb25
    replace hB := hB.trans (hb25.mono hB.size)
    clear hb25
    intro a17 p17
    refine q_v p17.s rfl rfl rfl (g_not rfl p17.v ?_)
    intro a18 p18
    refine q_v p18.s rfl rfl rfl (g_move rfl p18.v ?_)
    intro a19 p19
    cases hc27 : ordOk (os[k].f1) (os[k].f2) (os[k].f3) (os[k].f4)
    · have s20 : a17.eval (.tmp 20) = .bool false := (p17.v).trans (congrArg Value.bool hc27)
      have s21 : a18.eval (.tmp 21) = .bool true := (p18.v).trans (congrArg (fun b => Value.bool (!b)) hc27)
      have s22 : a19.eval (.tmp 22) = .bool true := (p19.v).trans (congrArg (fun b => Value.bool (!b)) hc27)
      refine q_s p19.s rfl rfl s22 rfl rfl ?_
      intro a20 p20
      refine q_s p20.s rfl rfl (p20.k s22 rfl) rfl rfl ?_
      intro a21 p21
      refine q_s p21.s rfl rfl (p21.k (p20.k s22 rfl) rfl) rfl rfl ?_
      intro a22 p22
      refine q_s p22.s rfl rfl (p22.k (p21.k (p20.k s22 rfl) rfl) rfl) rfl rfl ?_
      intro a23 p23
      refine q_s p23.s rfl rfl (p23.k (p22.k (p21.k (p20.k s22 rfl) rfl) rfl) rfl) rfl rfl ?_
      intro a24 p24
      refine q_s p24.s rfl rfl (p24.k (p23.k (p22.k (p21.k (p20.k s22 rfl) rfl) rfl) rfl) rfl) rfl rfl ?_
      intro a25 p25
      refine q_v p25.s rfl rfl rfl (g_pick_t rfl (p25.k (p24.k (p23.k (p22.k (p21.k (p20.k s22 rfl) rfl) rfl) rfl) rfl) rfl) rfl ?_)
      intro a26 p26
      have s29 : a26.eval (.tmp 29) = .bool true := p26.v
      refine q_v p26.s rfl rfl rfl (g_move rfl s29 ?_)
      intro a27 p27
      refine q_s p27.s rfl rfl p27.v rfl rfl ?_
      intro a28 p28
      refine q_s p28.s rfl rfl (p28.k p27.v rfl) rfl rfl ?_
      intro a29 p29
      refine q_s p29.s rfl rfl (p29.k (p28.k p27.v rfl) rfl) rfl rfl ?_
      intro a30 p30
      refine q_s p30.s rfl rfl (p30.k (p29.k (p28.k p27.v rfl) rfl) rfl) rfl rfl ?_
      intro a31 p31
      refine q_s p31.s rfl rfl (p31.k (p30.k (p29.k (p28.k p27.v rfl) rfl) rfl) rfl) rfl rfl ?_
      intro a32 p32
      refine q_s p32.s rfl rfl (p32.k (p31.k (p30.k (p29.k (p28.k p27.v rfl) rfl) rfl) rfl) rfl) rfl rfl ?_
      intro a33 p33
      refine q_v p33.s rfl rfl rfl (g_pick_t rfl (p33.k (p32.k (p31.k (p30.k (p29.k (p28.k p27.v rfl) rfl) rfl) rfl) rfl) rfl) rfl ?_)
      intro a34 p34
      have s37 : a34.eval (.tmp 37) = .bool true := p34.v
      refine wpList_nil ?_
      have kc14 := ((((((((((((((((((((Kps.nil a14).u p15).u p16).u p17).u p18).u p19).u p20).u p21).u p22).u p23).u p24).u p25).u p26).u p27).u p28).u p29).u p30).u p31).u p32).u p33).u p34
      replace s0 := kc14.k s0 rfl
      replace s1 := kc14.k s1 rfl
      replace s4 := kc14.k s4 rfl
      replace s11 := kc14.k s11 rfl
      replace s12 := kc14.k s12 rfl
      replace s13 := kc14.k s13 rfl
      replace s14 := kc14.k s14 rfl
      replace s6 := kc14.k s6 rfl
      replace s5 := kc14.k s5 rfl
      clear kc14
      refine hK24 _ _ ?_
      clear hK24
      refine c_true s37 ?_
      refine wp_seq_k fun K28 hK28 => ?_
      refine wp_region_lit ?_
      refine q_v p34.s rfl rfl rfl (g_assign rfl rfl ?_)
      intro a35 p35
      have s4 : a35.eval (.tmp 4) = .bool false := p35.v
      refine wpList_nil ?_
      replace s0 := p35.k s0 rfl
      replace s1 := p35.k s1 rfl
      replace s11 := p35.k s11 rfl
      replace s12 := p35.k s12 rfl
      replace s13 := p35.k s13 rfl
      replace s14 := p35.k s14 rfl
      replace s6 := p35.k s6 rfl
      replace s5 := p35.k s5 rfl
      replace s37 := p35.k s37 rfl
      refine hK28 _ _ ?_
      clear hK28
      refine wp_ret ?_
      try dsimp only [Exit.then, Exit.inBlock]
      refine ret1 p35.s Try.results52 (res_tmp s4) ?_
      have hat : osAt t os k = false := by unfold osAt freshO sortO; rw [wAt_eq hlt]; simp only [decide_eq_true hc13, hc27, Bool.and_true, Bool.true_and, Bool.and_false, Bool.false_and, Bool.or_true, Bool.true_or, Bool.or_false, Bool.false_or, Bool.not_true, Bool.not_false, Bool.and_self]
      exact ⟨by unfold osOk; rw [osTo_fail hlt hat, Bool.and_false], hB⟩
    have s20 : a17.eval (.tmp 20) = .bool true := (p17.v).trans (congrArg Value.bool hc27)
    have s21 : a18.eval (.tmp 21) = .bool false := (p18.v).trans (congrArg (fun b => Value.bool (!b)) hc27)
    have s22 : a19.eval (.tmp 22) = .bool false := (p19.v).trans (congrArg (fun b => Value.bool (!b)) hc27)
    refine q_t p19.s rfl rfl s22 rfl rfl (g_field (r := 0) rfl (p19.k (p18.k (p17.k (p16.k (p15.k s6 rfl) rfl) rfl) rfl) rfl) Try.underlying45 rfl (fun w => Try.sizeOf3 w) rfl rfl ?_)
    intro a20 p20
    refine q_t p20.s rfl rfl (p20.k s22 rfl) rfl rfl (g_load rfl p20.v Try.isAgg3 (box_cell h_q20 rfl) ?_)
    intro a21 p21
    refine q_t p21.s rfl rfl (p21.k (p20.k s22 rfl) rfl) rfl rfl (g_move rfl (p21.k (p20.k (p19.k (p18.k (p17.k (p16.k (p15.k s1 rfl) rfl) rfl) rfl) rfl) rfl) rfl) ?_)
    intro a22 p22
    refine q_t p22.s rfl rfl (p22.k (p21.k (p20.k s22 rfl) rfl) rfl) rfl rfl (g_sub (r := t - 1) rfl p22.v rfl (by omega) (by omega) ?_)
    intro a23 p23
    refine q_t p23.s rfl rfl (p23.k (p22.k (p21.k (p20.k s22 rfl) rfl) rfl) rfl) rfl rfl ?_
    refine g_call rfl rfl Try.call43 (arr3 (p23.k (p22.k p21.v rfl) rfl) rfl p23.v) ?_
    refine (between_any _ _ _ _).mono ?_
    rintro e w' ⟨rfl, rfl⟩
    refine ⟨_, rfl, ?_⟩
    intro a24 p24
    refine q_t p24.s rfl rfl (p24.k (p23.k (p22.k (p21.k (p20.k s22 rfl) rfl) rfl) rfl) rfl) rfl rfl (g_not rfl p24.v ?_)
    intro a25 p25
    refine q_v p25.s rfl rfl rfl (g_pick_f rfl (p25.k (p24.k (p23.k (p22.k (p21.k (p20.k s22 rfl) rfl) rfl) rfl) rfl) rfl) p25.v ?_)
    intro a26 p26
    have s29 : a26.eval (.tmp 29) = .bool (!(inB (os[k].f0) 0 (t - 1))) := p26.v
    refine q_v p26.s rfl rfl rfl (g_move rfl s29 ?_)
    intro a27 p27
    cases hc29 : inB (os[k].f0) 0 (t - 1)
    · have s27 : a24.eval (.tmp 27) = .bool false := (p24.v).trans (congrArg Value.bool hc29)
      have s28 : a25.eval (.tmp 28) = .bool true := (p25.v).trans (congrArg (fun b => Value.bool (!b)) hc29)
      replace s29 : a26.eval (.tmp 29) = .bool true := (s29).trans (congrArg (fun b => Value.bool (!b)) hc29)
      have s30 : a27.eval (.tmp 30) = .bool true := (p27.v).trans (congrArg (fun b => Value.bool (!b)) hc29)
      refine q_s p27.s rfl rfl s30 rfl rfl ?_
      intro a28 p28
      refine q_s p28.s rfl rfl (p28.k s30 rfl) rfl rfl ?_
      intro a29 p29
      refine q_s p29.s rfl rfl (p29.k (p28.k s30 rfl) rfl) rfl rfl ?_
      intro a30 p30
      refine q_s p30.s rfl rfl (p30.k (p29.k (p28.k s30 rfl) rfl) rfl) rfl rfl ?_
      intro a31 p31
      refine q_s p31.s rfl rfl (p31.k (p30.k (p29.k (p28.k s30 rfl) rfl) rfl) rfl) rfl rfl ?_
      intro a32 p32
      refine q_s p32.s rfl rfl (p32.k (p31.k (p30.k (p29.k (p28.k s30 rfl) rfl) rfl) rfl) rfl) rfl rfl ?_
      intro a33 p33
      refine q_v p33.s rfl rfl rfl (g_pick_t rfl (p33.k (p32.k (p31.k (p30.k (p29.k (p28.k s30 rfl) rfl) rfl) rfl) rfl) rfl) rfl ?_)
      intro a34 p34
      have s37 : a34.eval (.tmp 37) = .bool true := p34.v
      refine wpList_nil ?_
      have kc14 := ((((((((((((((((((((Kps.nil a14).u p15).u p16).u p17).u p18).u p19).u p20).u p21).u p22).u p23).u p24).u p25).u p26).u p27).u p28).u p29).u p30).u p31).u p32).u p33).u p34
      replace s0 := kc14.k s0 rfl
      replace s1 := kc14.k s1 rfl
      replace s4 := kc14.k s4 rfl
      replace s11 := kc14.k s11 rfl
      replace s12 := kc14.k s12 rfl
      replace s13 := kc14.k s13 rfl
      replace s14 := kc14.k s14 rfl
      replace s6 := kc14.k s6 rfl
      replace s5 := kc14.k s5 rfl
      clear kc14
      refine hK24 _ _ ?_
      clear hK24
      refine c_true s37 ?_
      refine wp_seq_k fun K30 hK30 => ?_
      refine wp_region_lit ?_
      refine q_v p34.s rfl rfl rfl (g_assign rfl rfl ?_)
      intro a35 p35
      have s4 : a35.eval (.tmp 4) = .bool false := p35.v
      refine wpList_nil ?_
      replace s0 := p35.k s0 rfl
      replace s1 := p35.k s1 rfl
      replace s11 := p35.k s11 rfl
      replace s12 := p35.k s12 rfl
      replace s13 := p35.k s13 rfl
      replace s14 := p35.k s14 rfl
      replace s6 := p35.k s6 rfl
      replace s5 := p35.k s5 rfl
      replace s37 := p35.k s37 rfl
      refine hK30 _ _ ?_
      clear hK30
      refine wp_ret ?_
      try dsimp only [Exit.then, Exit.inBlock]
      refine ret1 p35.s Try.results52 (res_tmp s4) ?_
      have hat : osAt t os k = false := by unfold osAt freshO sortO; rw [wAt_eq hlt]; simp only [decide_eq_true hc13, hc27, hc29, Bool.and_true, Bool.true_and, Bool.and_false, Bool.false_and, Bool.or_true, Bool.true_or, Bool.or_false, Bool.false_or, Bool.not_true, Bool.not_false, Bool.and_self]
      exact ⟨by unfold osOk; rw [osTo_fail hlt hat, Bool.and_false], hB⟩
    have s27 : a24.eval (.tmp 27) = .bool true := (p24.v).trans (congrArg Value.bool hc29)
    have s28 : a25.eval (.tmp 28) = .bool false := (p25.v).trans (congrArg (fun b => Value.bool (!b)) hc29)
    replace s29 : a26.eval (.tmp 29) = .bool false := (s29).trans (congrArg (fun b => Value.bool (!b)) hc29)
    have s30 : a27.eval (.tmp 30) = .bool false := (p27.v).trans (congrArg (fun b => Value.bool (!b)) hc29)
    refine q_t p27.s rfl rfl s30 rfl rfl (g_move rfl (p27.k (p26.k (p25.k (p24.k (p23.k (p22.k (p21.k (p20.k (p19.k (p18.k (p17.k (p16.k (p15.k s0 rfl) rfl) rfl) rfl) rfl) rfl) rfl) rfl) rfl) rfl) rfl) rfl) rfl) ?_)
    intro a28 p28
    refine q_t p28.s rfl rfl (p28.k s30 rfl) rfl rfl (g_field (r := 0) rfl (p28.k (p27.k (p26.k (p25.k (p24.k (p23.k (p22.k (p21.k (p20.k (p19.k (p18.k (p17.k (p16.k (p15.k s6 rfl) rfl) rfl) rfl) rfl) rfl) rfl) rfl) rfl) rfl) rfl) rfl) rfl) rfl) Try.underlying45 rfl (fun w => Try.sizeOf3 w) rfl rfl ?_)
    intro a29 p29
    refine q_t p29.s rfl rfl (p29.k (p28.k s30 rfl) rfl) rfl rfl (g_load rfl p29.v Try.isAgg3 (box_cell h_q20 rfl) ?_)
    intro a30 p30
    refine q_t p30.s rfl rfl (p30.k (p29.k (p28.k s30 rfl) rfl) rfl) rfl rfl ?_
    refine g_call rfl rfl Try.call45 (arr2 (p30.k (p29.k p28.v rfl) rfl) p30.v) ?_
    refine (indexOfOrder_any _ _ _ os _ _ hn (by omega) (hr_o.below hB)).mono ?_
    rintro e w32 ⟨rfl, hb31⟩
    refine ⟨_, rfl, ?_⟩
    replace h_q20 := keep_below h_q20 hb31
    replace hB := hB.trans (hb31.mono hB.size)
    clear hb31
    intro a31 p31
    refine q_t p31.s rfl rfl (p31.k (p30.k (p29.k (p28.k s30 rfl) rfl) rfl) rfl) rfl rfl (g_move rfl (p31.k (p30.k (p29.k (p28.k (p27.k (p26.k (p25.k (p24.k (p23.k (p22.k (p21.k (p20.k (p19.k (p18.k (p17.k (p16.k (p15.k s5 rfl) rfl) rfl) rfl) rfl) rfl) rfl) rfl) rfl) rfl) rfl) rfl) rfl) rfl) rfl) rfl) rfl) ?_)
    intro a32 p32
    refine q_t p32.s rfl rfl (p32.k (p31.k (p30.k (p29.k (p28.k s30 rfl) rfl) rfl) rfl) rfl) rfl rfl (g_neq rfl (p32.k p31.v rfl) p32.v ?_)
    intro a33 p33
    refine q_v p33.s rfl rfl rfl (g_pick_f rfl (p33.k (p32.k (p31.k (p30.k (p29.k (p28.k s30 rfl) rfl) rfl) rfl) rfl) rfl) p33.v ?_)
    intro a34 p34
    have s37 : a34.eval (.tmp 37) = .bool (!decide (idxO os (os[k].f0) = ((k : Nat) : Int))) := p34.v
    refine wpList_nil ?_
    have kc14 := ((((((((((((((((((((Kps.nil a14).u p15).u p16).u p17).u p18).u p19).u p20).u p21).u p22).u p23).u p24).u p25).u p26).u p27).u p28).u p29).u p30).u p31).u p32).u p33).u p34
    replace s0 := kc14.k s0 rfl
    replace s1 := kc14.k s1 rfl
    replace s4 := kc14.k s4 rfl
    replace s11 := kc14.k s11 rfl
    replace s12 := kc14.k s12 rfl
    replace s13 := kc14.k s13 rfl
    replace s14 := kc14.k s14 rfl
    replace s6 := kc14.k s6 rfl
    replace s5 := kc14.k s5 rfl
    clear kc14
    refine hK24 _ _ ?_
    clear hK24
    by_cases hc33 : idxO os (os[k].f0) = ((k : Nat) : Int)
    · replace s37 : a34.eval (.tmp 37) = .bool false := (s37).trans (congrArg (fun b => Value.bool (!b)) (decide_eq_true hc33))
      refine c_false s37 ?_
      refine wp_skip ?_
      refine hK23 _ _ ?_
      clear hK23
      refine wp_seq_k fun K34 hK34 => ?_
      refine wp_seq_k fun K35 hK35 => ?_
      refine wp_region_lit ?_
      refine q_v p34.s rfl rfl rfl (g_move rfl s5 ?_)
      intro a35 p35
      refine q_v p35.s rfl rfl rfl (g_eql rfl p35.v rfl ?_)
      intro a36 p36
      refine wpList_nil ?_
      replace s0 := p36.k (p35.k s0 rfl) rfl
      replace s1 := p36.k (p35.k s1 rfl) rfl
      replace s4 := p36.k (p35.k s4 rfl) rfl
      replace s11 := p36.k (p35.k s11 rfl) rfl
      replace s12 := p36.k (p35.k s12 rfl) rfl
      replace s13 := p36.k (p35.k s13 rfl) rfl
      replace s14 := p36.k (p35.k s14 rfl) rfl
      replace s6 := p36.k (p35.k s6 rfl) rfl
      replace s5 := p36.k (p35.k s5 rfl) rfl
      replace s37 := p36.k (p35.k s37 rfl) rfl
      replace s39 := p36.v
      refine hK35 _ _ ?_
      clear hK35
      by_cases hk0 : ((k : Nat) : Int) = 0
      · replace s39 : a36.eval (.tmp 39) = .bool true := (s39).trans (congrArg Value.bool (decide_eq_true hk0))
        refine c_true s39 ?_
        refine wp_exit ?_
        refine hK14 _ _ ?_
        clear hK14
        refine wp_region_lit ?_
        refine q_v p36.s rfl rfl rfl (g_add (r := ((k + 1 : Nat) : Int)) rfl s13 rfl (by omega) (by omega) ?_)
        intro a37 p37
        refine q_v p37.s rfl rfl rfl (g_move rfl p37.v ?_)
        intro a38 p38
        refine wpList_nil ?_
        replace s0 := p38.k (p37.k s0 rfl) rfl
        replace s1 := p38.k (p37.k s1 rfl) rfl
        replace s4 := p38.k (p37.k s4 rfl) rfl
        replace s11 := p38.k (p37.k s11 rfl) rfl
        replace s12 := p38.k (p37.k s12 rfl) rfl
        replace s13 := p38.v
        replace s14 := p38.k (p37.k s14 rfl) rfl
        replace s6 := p38.k (p37.k s6 rfl) rfl
        replace s5 := p38.k (p37.k s5 rfl) rfl
        replace s37 := p38.k (p37.k s37 rfl) rfl
        replace s39 := p38.k (p37.k s39 rfl) rfl
        have hd0 : decide (k = 0) = true := by exact decide_eq_true (by omega)
        have hat : osAt t os k = true := by unfold osAt freshO sortO; rw [wAt_eq hlt]; simp only [decide_eq_false hc4, decide_eq_true hc13, hc27, hc29, decide_eq_true hc33, decide_eq_true hk0, hd0, Bool.and_true, Bool.true_and, Bool.and_false, Bool.false_and, Bool.or_true, Bool.true_or, Bool.or_false, Bool.false_or, Bool.not_true, Bool.not_false, Bool.and_self]
        refine show _ ∧ _ from ⟨⟨k + 1, p38.s, s0, s1, s4, s11, s12, s13, hB, (by omega), (osTo_step hst hat)⟩, ?_⟩
        show os.length - (intOf (a38.eval (.tmp 13))).toNat < os.length - (intOf (a8.eval (.tmp 13))).toNat
        rw [s13, mu10]
        simp only [intOf]
        omega
      replace s39 : a36.eval (.tmp 39) = .bool false := (s39).trans (congrArg Value.bool (decide_eq_false hk0))
      refine c_false s39 ?_
      refine wp_skip ?_
      refine hK34 _ _ ?_
      clear hK34
      refine wp_seq_k fun K36 hK36 => ?_
      have hlt1 : k - 1 < os.length := by omega
      refine wp_region_lit ?_
      refine q_v p36.s rfl rfl rfl (g_move rfl s0 ?_)
      intro a37 p37
      refine q_v p37.s rfl rfl rfl (g_move rfl (p37.k s5 rfl) ?_)
      intro a38 p38
      refine q_v p38.s rfl rfl rfl (g_sub (r := ((k - 1 : Nat) : Int)) rfl p38.v rfl (by omega) (by omega) ?_)
      intro a39 p39
      obtain ⟨b37, o38, hA39, hl_hc40, hc40⟩ := Rd.get cWaiting_len (hr_o.below hB) (Eq.symm hn) (i := k - 1) (by omega)
      refine q_v p39.s rfl rfl rfl (g_index (r := o38 + (k - 1) * 5) (k := k - 1) rfl ((p39.k (p38.k p37.v rfl) rfl).trans (slice_at hA39)) p39.v Try.underlying26 (fun w => Try.sizeOf45 w) (by omega) rfl ?_)
      intro a40 p40
      refine q_v p40.s rfl rfl rfl (g_loadA (l := cWaiting os[k - 1]) rfl p40.v Try.isAgg45 Try.sizeOf45 rfl (fun j u hu => by rw [Nat.add_assoc]; exact hc40 j u (by have := (List.getElem?_eq_some_iff.1 hu).1; exact this) hu) ?_)
      intro a41 p41
      refine q_v p41.s rfl rfl rfl ?_
      refine g_alloc rfl Try.zeroValue45 rfl ?_
      intro q41 w42 N_q41
      have n_q20_q41 := N_q41.ne ⟨lt_of_block h_q20⟩
      have n_q41_q20 := n_q20_q41.symm
      have g_q41 : GeB w.heap.size q41 := ⟨Nat.le_trans hB.size N_q41.lo⟩
      replace h_q20 := keep_below h_q20 N_q41.below
      replace hB := below_new hB hB.size N_q41
      have h_q41 := N_q41.here
      clear N_q41
      intro a42 p42
      refine q_eff rfl rfl ?_
      refine g_storeB rfl p42.v (p42.k p41.v rfl) Try.sizeOf45 rfl rfl h_q41 rfl ?_
      intro w43 W_w43
      replace h_q20 := keep_wrote h_q20 W_w43 n_q41_q20
      replace h_q41 := W_w43.here
      replace hB := below_wrote hB hB.size W_w43 g_q41.le
      clear W_w43
      refine wpList_nil ?_
      have kc36 := ((((((Kps.nil a36).u p37).u p38).u p39).u p40).u p41).u p42
      replace s0 := kc36.k s0 rfl
      replace s1 := kc36.k s1 rfl
      replace s4 := kc36.k s4 rfl
      replace s11 := kc36.k s11 rfl
      replace s12 := kc36.k s12 rfl
      replace s13 := kc36.k s13 rfl
      replace s14 := kc36.k s14 rfl
      replace s6 := kc36.k s6 rfl
      replace s5 := kc36.k s5 rfl
      replace s37 := kc36.k s37 rfl
      replace s39 := kc36.k s39 rfl
      replace s7 := p42.v
      clear kc36
      refine hK36 _ _ ?_
      clear hK36
      refine wp_seq_k fun K44 hK44 => ?_
      refine wp_region_lit ?_
      refine q_v p42.s rfl rfl rfl (g_field (r := 1) rfl s6 Try.underlying45 rfl (fun w => Try.sizeOf40 w) rfl rfl ?_)
      intro a43 p43
      refine q_v p43.s rfl rfl rfl (g_field (r := 2) rfl p43.v Try.underlying40 rfl (fun w => Try.sizeOf3 w) rfl rfl ?_)
      intro a44 p44
      refine q_v p44.s rfl rfl rfl (g_load rfl p44.v Try.isAgg3 (box_cell h_q20 rfl) ?_)
      intro a45 p45
      refine q_v p45.s rfl rfl rfl (g_field (r := 1) rfl (p45.k (p44.k (p43.k s7 rfl) rfl) rfl) Try.underlying45 rfl (fun w => Try.sizeOf40 w) rfl rfl ?_)
      intro a46 p46
      refine q_v p46.s rfl rfl rfl (g_field (r := 2) rfl p46.v Try.underlying40 rfl (fun w => Try.sizeOf3 w) rfl rfl ?_)
      intro a47 p47
      refine q_v p47.s rfl rfl rfl (g_load rfl p47.v Try.isAgg3 (box_cell h_q41 rfl) ?_)
      intro a48 p48
      refine q_v p48.s rfl rfl rfl (g_lss rfl (p48.k (p47.k (p46.k p45.v rfl) rfl) rfl) p48.v ?_)
      intro a49 p49
      refine q_v p49.s rfl rfl rfl (g_move rfl p49.v ?_)
      intro a50 p50
      by_cases hc45 : os[k].f2 < os[k - 1].f2
      · have s51 : a49.eval (.tmp 51) = .bool true := (p49.v).trans (congrArg Value.bool (decide_eq_true hc45))
        have s52 : a50.eval (.tmp 52) = .bool true := (p50.v).trans (congrArg Value.bool (decide_eq_true hc45))
        refine q_s p50.s rfl rfl s52 rfl rfl ?_
        intro a51 p51
        refine q_s p51.s rfl rfl (p51.k s52 rfl) rfl rfl ?_
        intro a52 p52
        refine q_s p52.s rfl rfl (p52.k (p51.k s52 rfl) rfl) rfl rfl ?_
        intro a53 p53
        refine q_s p53.s rfl rfl (p53.k (p52.k (p51.k s52 rfl) rfl) rfl) rfl rfl ?_
        intro a54 p54
        refine q_s p54.s rfl rfl (p54.k (p53.k (p52.k (p51.k s52 rfl) rfl) rfl) rfl) rfl rfl ?_
        intro a55 p55
        refine q_s p55.s rfl rfl (p55.k (p54.k (p53.k (p52.k (p51.k s52 rfl) rfl) rfl) rfl) rfl) rfl rfl ?_
        intro a56 p56
        refine q_s p56.s rfl rfl (p56.k (p55.k (p54.k (p53.k (p52.k (p51.k s52 rfl) rfl) rfl) rfl) rfl) rfl) rfl rfl ?_
        intro a57 p57
        refine q_s p57.s rfl rfl (p57.k (p56.k (p55.k (p54.k (p53.k (p52.k (p51.k s52 rfl) rfl) rfl) rfl) rfl) rfl) rfl) rfl rfl ?_
        intro a58 p58
        refine q_u p58.s rfl rfl p58.v rfl rfl ?_
        intro a59 p59
        refine q_u p59.s rfl rfl (p59.k p58.v rfl) rfl rfl ?_
        intro a60 p60
        refine q_u p60.s rfl rfl (p60.k (p59.k p58.v rfl) rfl) rfl rfl ?_
        intro a61 p61
        refine q_u p61.s rfl rfl (p61.k (p60.k (p59.k p58.v rfl) rfl) rfl) rfl rfl ?_
        intro a62 p62
        refine q_u p62.s rfl rfl (p62.k (p61.k (p60.k (p59.k p58.v rfl) rfl) rfl) rfl) rfl rfl ?_
        intro a63 p63
        refine q_s p63.s rfl rfl (p63.k (p62.k (p61.k (p60.k (p59.k (p58.k (p57.k (p56.k (p55.k (p54.k (p53.k (p52.k (p51.k s52 rfl) rfl) rfl) rfl) rfl) rfl) rfl) rfl) rfl) rfl) rfl) rfl) rfl) rfl rfl ?_
        intro a64 p64
        refine q_v p64.s rfl rfl rfl (g_pick_t rfl (p64.k (p63.k (p62.k (p61.k (p60.k (p59.k (p58.k (p57.k (p56.k (p55.k (p54.k (p53.k (p52.k (p51.k s52 rfl) rfl) rfl) rfl) rfl) rfl) rfl) rfl) rfl) rfl) rfl) rfl) rfl) rfl) rfl ?_)
        intro a65 p65
        have s67 : a65.eval (.tmp 67) = .bool true := p65.v
        refine wpList_nil ?_
        have kc42 := (((((((((((((((((((((((Kps.nil a42).u p43).u p44).u p45).u p46).u p47).u p48).u p49).u p50).u p51).u p52).u p53).u p54).u p55).u p56).u p57).u p58).u p59).u p60).u p61).u p62).u p63).u p64).u p65
        replace s0 := kc42.k s0 rfl
        replace s1 := kc42.k s1 rfl
        replace s4 := kc42.k s4 rfl
        replace s11 := kc42.k s11 rfl
        replace s12 := kc42.k s12 rfl
        replace s13 := kc42.k s13 rfl
        replace s14 := kc42.k s14 rfl
        replace s6 := kc42.k s6 rfl
        replace s5 := kc42.k s5 rfl
        replace s37 := kc42.k s37 rfl
        replace s39 := kc42.k s39 rfl
        replace s7 := kc42.k s7 rfl
        clear kc42
        refine hK44 _ _ ?_
        clear hK44
        refine c_true s67 ?_
        refine wp_seq_k fun K46 hK46 => ?_
        refine wp_region_lit ?_
        refine q_v p65.s rfl rfl rfl (g_assign rfl rfl ?_)
        intro a66 p66
        have s4 : a66.eval (.tmp 4) = .bool false := p66.v
        refine wpList_nil ?_
        replace s0 := p66.k s0 rfl
        replace s1 := p66.k s1 rfl
        replace s11 := p66.k s11 rfl
        replace s12 := p66.k s12 rfl
        replace s13 := p66.k s13 rfl
        replace s14 := p66.k s14 rfl
        replace s6 := p66.k s6 rfl
        replace s5 := p66.k s5 rfl
        replace s37 := p66.k s37 rfl
        replace s39 := p66.k s39 rfl
        replace s7 := p66.k s7 rfl
        replace s67 := p66.k s67 rfl
        refine hK46 _ _ ?_
        clear hK46
        refine wp_ret ?_
        try dsimp only [Exit.then, Exit.inBlock]
        refine ret1 p66.s Try.results52 (res_tmp s4) ?_
        have hd0 : decide (k = 0) = false := decide_eq_false (by omega)
        have hat : osAt t os k = false := by unfold osAt freshO sortO; rw [wAt_eq hlt, wAt_eq hlt1]; simp only [decide_eq_true hc13, hc27, hc29, decide_eq_true hc33, decide_eq_false hk0, decide_eq_true hc45, hd0, Bool.and_true, Bool.true_and, Bool.and_false, Bool.false_and, Bool.or_true, Bool.true_or, Bool.or_false, Bool.false_or, Bool.not_true, Bool.not_false, Bool.and_self]
        exact ⟨by unfold osOk; rw [osTo_fail hlt hat, Bool.and_false], hB⟩
      have s51 : a49.eval (.tmp 51) = .bool false := (p49.v).trans (congrArg Value.bool (decide_eq_false hc45))
      have s52 : a50.eval (.tmp 52) = .bool false := (p50.v).trans (congrArg Value.bool (decide_eq_false hc45))
      refine q_t p50.s rfl rfl s52 rfl rfl (g_field (r := 1) rfl (p50.k (p49.k (p48.k (p47.k (p46.k (p45.k (p44.k (p43.k s6 rfl) rfl) rfl) rfl) rfl) rfl) rfl) rfl) Try.underlying45 rfl (fun w => Try.sizeOf40 w) rfl rfl ?_)
      intro a51 p51
      refine q_t p51.s rfl rfl (p51.k s52 rfl) rfl rfl (g_field (r := 2) rfl p51.v Try.underlying40 rfl (fun w => Try.sizeOf3 w) rfl rfl ?_)
      intro a52 p52
      refine q_t p52.s rfl rfl (p52.k (p51.k s52 rfl) rfl) rfl rfl (g_load rfl p52.v Try.isAgg3 (box_cell h_q20 rfl) ?_)
      intro a53 p53
      refine q_t p53.s rfl rfl (p53.k (p52.k (p51.k s52 rfl) rfl) rfl) rfl rfl (g_field (r := 1) rfl (p53.k (p52.k (p51.k (p50.k (p49.k (p48.k (p47.k (p46.k (p45.k (p44.k (p43.k s7 rfl) rfl) rfl) rfl) rfl) rfl) rfl) rfl) rfl) rfl) rfl) Try.underlying45 rfl (fun w => Try.sizeOf40 w) rfl rfl ?_)
      intro a54 p54
      refine q_t p54.s rfl rfl (p54.k (p53.k (p52.k (p51.k s52 rfl) rfl) rfl) rfl) rfl rfl (g_field (r := 2) rfl p54.v Try.underlying40 rfl (fun w => Try.sizeOf3 w) rfl rfl ?_)
      intro a55 p55
      refine q_t p55.s rfl rfl (p55.k (p54.k (p53.k (p52.k (p51.k s52 rfl) rfl) rfl) rfl) rfl) rfl rfl (g_load rfl p55.v Try.isAgg3 (box_cell h_q41 rfl) ?_)
      intro a56 p56
      refine q_t p56.s rfl rfl (p56.k (p55.k (p54.k (p53.k (p52.k (p51.k s52 rfl) rfl) rfl) rfl) rfl) rfl) rfl rfl (g_eql rfl (p56.k (p55.k (p54.k p53.v rfl) rfl) rfl) p56.v ?_)
      intro a57 p57
      refine q_t p57.s rfl rfl (p57.k (p56.k (p55.k (p54.k (p53.k (p52.k (p51.k s52 rfl) rfl) rfl) rfl) rfl) rfl) rfl) rfl rfl (g_move rfl p57.v ?_)
      intro a58 p58
      by_cases hc47 : os[k].f2 = os[k - 1].f2
      · have s59 : a57.eval (.tmp 59) = .bool true := (p57.v).trans (congrArg Value.bool (decide_eq_true hc47))
        have s60 : a58.eval (.tmp 60) = .bool true := (p58.v).trans (congrArg Value.bool (decide_eq_true hc47))
        refine q_t p58.s rfl rfl s60 rfl rfl (g_field (r := 0) rfl (p58.k (p57.k (p56.k (p55.k (p54.k (p53.k (p52.k (p51.k (p50.k (p49.k (p48.k (p47.k (p46.k (p45.k (p44.k (p43.k s6 rfl) rfl) rfl) rfl) rfl) rfl) rfl) rfl) rfl) rfl) rfl) rfl) rfl) rfl) rfl) rfl) Try.underlying45 rfl (fun w => Try.sizeOf3 w) rfl rfl ?_)
        intro a59 p59
        refine q_t p59.s rfl rfl (p59.k s60 rfl) rfl rfl (g_load rfl p59.v Try.isAgg3 (box_cell h_q20 rfl) ?_)
        intro a60 p60
        refine q_t p60.s rfl rfl (p60.k (p59.k s60 rfl) rfl) rfl rfl (g_field (r := 0) rfl (p60.k (p59.k (p58.k (p57.k (p56.k (p55.k (p54.k (p53.k (p52.k (p51.k (p50.k (p49.k (p48.k (p47.k (p46.k (p45.k (p44.k (p43.k s7 rfl) rfl) rfl) rfl) rfl) rfl) rfl) rfl) rfl) rfl) rfl) rfl) rfl) rfl) rfl) rfl) rfl) rfl) Try.underlying45 rfl (fun w => Try.sizeOf3 w) rfl rfl ?_)
        intro a61 p61
        refine q_t p61.s rfl rfl (p61.k (p60.k (p59.k s60 rfl) rfl) rfl) rfl rfl (g_load rfl p61.v Try.isAgg3 (box_cell h_q41 rfl) ?_)
        intro a62 p62
        refine q_t p62.s rfl rfl (p62.k (p61.k (p60.k (p59.k s60 rfl) rfl) rfl) rfl) rfl rfl (g_lss rfl (p62.k (p61.k p60.v rfl) rfl) p62.v ?_)
        intro a63 p63
        refine q_t p63.s rfl rfl (p63.k (p62.k (p61.k (p60.k (p59.k (p58.k (p57.k (p56.k (p55.k (p54.k (p53.k (p52.k (p51.k s52 rfl) rfl) rfl) rfl) rfl) rfl) rfl) rfl) rfl) rfl) rfl) rfl) rfl) rfl rfl (g_pick_t rfl (p63.k (p62.k (p61.k (p60.k (p59.k s60 rfl) rfl) rfl) rfl) rfl) p63.v ?_)
        intro a64 p64
        have s66 : a64.eval (.tmp 66) = .bool (decide (os[k].f0 < os[k - 1].f0)) := p64.v
        refine q_v p64.s rfl rfl rfl (g_pick_f rfl (p64.k (p63.k (p62.k (p61.k (p60.k (p59.k (p58.k (p57.k (p56.k (p55.k (p54.k (p53.k (p52.k (p51.k s52 rfl) rfl) rfl) rfl) rfl) rfl) rfl) rfl) rfl) rfl) rfl) rfl) rfl) rfl) s66 ?_)
        intro a65 p65
        have s67 : a65.eval (.tmp 67) = .bool (decide (os[k].f0 < os[k - 1].f0)) := p65.v
        refine wpList_nil ?_
        have kc42 := (((((((((((((((((((((((Kps.nil a42).u p43).u p44).u p45).u p46).u p47).u p48).u p49).u p50).u p51).u p52).u p53).u p54).u p55).u p56).u p57).u p58).u p59).u p60).u p61).u p62).u p63).u p64).u p65
        replace s0 := kc42.k s0 rfl
        replace s1 := kc42.k s1 rfl
        replace s4 := kc42.k s4 rfl
        replace s11 := kc42.k s11 rfl
        replace s12 := kc42.k s12 rfl
        replace s13 := kc42.k s13 rfl
        replace s14 := kc42.k s14 rfl
        replace s6 := kc42.k s6 rfl
        replace s5 := kc42.k s5 rfl
        replace s37 := kc42.k s37 rfl
        replace s39 := kc42.k s39 rfl
        replace s7 := kc42.k s7 rfl
        clear kc42
        refine hK44 _ _ ?_
        clear hK44
        by_cases hc48 : os[k].f0 < os[k - 1].f0
        · replace s67 : a65.eval (.tmp 67) = .bool true := (s67).trans (congrArg Value.bool (decide_eq_true hc48))
          refine c_true s67 ?_
          refine wp_seq_k fun K49 hK49 => ?_
          refine wp_region_lit ?_
          refine q_v p65.s rfl rfl rfl (g_assign rfl rfl ?_)
          intro a66 p66
          have s4 : a66.eval (.tmp 4) = .bool false := p66.v
          refine wpList_nil ?_
          replace s0 := p66.k s0 rfl
          replace s1 := p66.k s1 rfl
          replace s11 := p66.k s11 rfl
          replace s12 := p66.k s12 rfl
          replace s13 := p66.k s13 rfl
          replace s14 := p66.k s14 rfl
          replace s6 := p66.k s6 rfl
          replace s5 := p66.k s5 rfl
          replace s37 := p66.k s37 rfl
          replace s39 := p66.k s39 rfl
          replace s7 := p66.k s7 rfl
          replace s67 := p66.k s67 rfl
          refine hK49 _ _ ?_
          clear hK49
          refine wp_ret ?_
          try dsimp only [Exit.then, Exit.inBlock]
          refine ret1 p66.s Try.results52 (res_tmp s4) ?_
          have hd0 : decide (k = 0) = false := decide_eq_false (by omega)
          have hat : osAt t os k = false := by unfold osAt freshO sortO; rw [wAt_eq hlt, wAt_eq hlt1]; simp only [decide_eq_true hc13, hc27, hc29, decide_eq_true hc33, decide_eq_false hk0, decide_eq_false hc45, decide_eq_true hc47, decide_eq_true hc48, hd0, Bool.and_true, Bool.true_and, Bool.and_false, Bool.false_and, Bool.or_true, Bool.true_or, Bool.or_false, Bool.false_or, Bool.not_true, Bool.not_false, Bool.and_self]
          exact ⟨by unfold osOk; rw [osTo_fail hlt hat, Bool.and_false], hB⟩
        replace s67 : a65.eval (.tmp 67) = .bool false := (s67).trans (congrArg Value.bool (decide_eq_false hc48))
        refine c_false s67 ?_
        refine wp_skip ?_
        refine hK14 _ _ ?_
        clear hK14
        refine wp_region_lit ?_
        refine q_v p65.s rfl rfl rfl (g_add (r := ((k + 1 : Nat) : Int)) rfl s13 rfl (by omega) (by omega) ?_)
        intro a66 p66
        refine q_v p66.s rfl rfl rfl (g_move rfl p66.v ?_)
        intro a67 p67
        refine wpList_nil ?_
        replace s0 := p67.k (p66.k s0 rfl) rfl
        replace s1 := p67.k (p66.k s1 rfl) rfl
        replace s4 := p67.k (p66.k s4 rfl) rfl
        replace s11 := p67.k (p66.k s11 rfl) rfl
        replace s12 := p67.k (p66.k s12 rfl) rfl
        replace s13 := p67.v
        replace s14 := p67.k (p66.k s14 rfl) rfl
        replace s6 := p67.k (p66.k s6 rfl) rfl
        replace s5 := p67.k (p66.k s5 rfl) rfl
        replace s37 := p67.k (p66.k s37 rfl) rfl
        replace s39 := p67.k (p66.k s39 rfl) rfl
        replace s7 := p67.k (p66.k s7 rfl) rfl
        replace s67 := p67.k (p66.k s67 rfl) rfl
        have hd0 : decide (k = 0) = false := by exact decide_eq_false (by omega)
        have hat : osAt t os k = true := by unfold osAt freshO sortO; rw [wAt_eq hlt, wAt_eq hlt1]; simp only [decide_eq_false hc4, decide_eq_true hc13, hc27, hc29, decide_eq_true hc33, decide_eq_false hk0, decide_eq_false hc45, decide_eq_true hc47, decide_eq_false hc48, hd0, Bool.and_true, Bool.true_and, Bool.and_false, Bool.false_and, Bool.or_true, Bool.true_or, Bool.or_false, Bool.false_or, Bool.not_true, Bool.not_false, Bool.and_self]
        refine show _ ∧ _ from ⟨⟨k + 1, p67.s, s0, s1, s4, s11, s12, s13, hB, (by omega), (osTo_step hst hat)⟩, ?_⟩
        show os.length - (intOf (a67.eval (.tmp 13))).toNat < os.length - (intOf (a8.eval (.tmp 13))).toNat
        rw [s13, mu10]
        simp only [intOf]
        omega
      have s59 : a57.eval (.tmp 59) = .bool false := (p57.v).trans (congrArg Value.bool (decide_eq_false hc47))
      have s60 : a58.eval (.tmp 60) = .bool false := (p58.v).trans (congrArg Value.bool (decide_eq_false hc47))
      refine q_s p58.s rfl rfl s60 rfl rfl ?_
      intro a59 p59
      refine q_s p59.s rfl rfl (p59.k s60 rfl) rfl rfl ?_
      intro a60 p60
      refine q_s p60.s rfl rfl (p60.k (p59.k s60 rfl) rfl) rfl rfl ?_
      intro a61 p61
      refine q_s p61.s rfl rfl (p61.k (p60.k (p59.k s60 rfl) rfl) rfl) rfl rfl ?_
      intro a62 p62
      refine q_s p62.s rfl rfl (p62.k (p61.k (p60.k (p59.k s60 rfl) rfl) rfl) rfl) rfl rfl ?_
      intro a63 p63
      refine q_t p63.s rfl rfl (p63.k (p62.k (p61.k (p60.k (p59.k (p58.k (p57.k (p56.k (p55.k (p54.k (p53.k (p52.k (p51.k s52 rfl) rfl) rfl) rfl) rfl) rfl) rfl) rfl) rfl) rfl) rfl) rfl) rfl) rfl rfl (g_pick_f rfl (p63.k (p62.k (p61.k (p60.k (p59.k s60 rfl) rfl) rfl) rfl) rfl) rfl ?_)
      intro a64 p64
      have s66 : a64.eval (.tmp 66) = .bool false := p64.v
      refine q_v p64.s rfl rfl rfl (g_pick_f rfl (p64.k (p63.k (p62.k (p61.k (p60.k (p59.k (p58.k (p57.k (p56.k (p55.k (p54.k (p53.k (p52.k (p51.k s52 rfl) rfl) rfl) rfl) rfl) rfl) rfl) rfl) rfl) rfl) rfl) rfl) rfl) rfl) s66 ?_)
      intro a65 p65
      have s67 : a65.eval (.tmp 67) = .bool false := p65.v
      refine wpList_nil ?_
      have kc42 := (((((((((((((((((((((((Kps.nil a42).u p43).u p44).u p45).u p46).u p47).u p48).u p49).u p50).u p51).u p52).u p53).u p54).u p55).u p56).u p57).u p58).u p59).u p60).u p61).u p62).u p63).u p64).u p65
      replace s0 := kc42.k s0 rfl
      replace s1 := kc42.k s1 rfl
      replace s4 := kc42.k s4 rfl
      replace s11 := kc42.k s11 rfl
      replace s12 := kc42.k s12 rfl
      replace s13 := kc42.k s13 rfl
      replace s14 := kc42.k s14 rfl
      replace s6 := kc42.k s6 rfl
      replace s5 := kc42.k s5 rfl
      replace s37 := kc42.k s37 rfl
      replace s39 := kc42.k s39 rfl
      replace s7 := kc42.k s7 rfl
      clear kc42
      refine hK44 _ _ ?_
      clear hK44
      refine c_false s67 ?_
      refine wp_skip ?_
      refine hK14 _ _ ?_
      clear hK14
      refine wp_region_lit ?_
      refine q_v p65.s rfl rfl rfl (g_add (r := ((k + 1 : Nat) : Int)) rfl s13 rfl (by omega) (by omega) ?_)
      intro a66 p66
      refine q_v p66.s rfl rfl rfl (g_move rfl p66.v ?_)
      intro a67 p67
      refine wpList_nil ?_
      replace s0 := p67.k (p66.k s0 rfl) rfl
      replace s1 := p67.k (p66.k s1 rfl) rfl
      replace s4 := p67.k (p66.k s4 rfl) rfl
      replace s11 := p67.k (p66.k s11 rfl) rfl
      replace s12 := p67.k (p66.k s12 rfl) rfl
      replace s13 := p67.v
      replace s14 := p67.k (p66.k s14 rfl) rfl
      replace s6 := p67.k (p66.k s6 rfl) rfl
      replace s5 := p67.k (p66.k s5 rfl) rfl
      replace s37 := p67.k (p66.k s37 rfl) rfl
      replace s39 := p67.k (p66.k s39 rfl) rfl
      replace s7 := p67.k (p66.k s7 rfl) rfl
      replace s67 := p67.k (p66.k s67 rfl) rfl
      have hd0 : decide (k = 0) = false := by exact decide_eq_false (by omega)
      have hat : osAt t os k = true := by unfold osAt freshO sortO; rw [wAt_eq hlt, wAt_eq hlt1]; simp only [decide_eq_false hc4, decide_eq_true hc13, hc27, hc29, decide_eq_true hc33, decide_eq_false hk0, decide_eq_false hc45, decide_eq_false hc47, hd0, Bool.and_true, Bool.true_and, Bool.and_false, Bool.false_and, Bool.or_true, Bool.true_or, Bool.or_false, Bool.false_or, Bool.not_true, Bool.not_false, Bool.and_self]
      refine show _ ∧ _ from ⟨⟨k + 1, p67.s, s0, s1, s4, s11, s12, s13, hB, (by omega), (osTo_step hst hat)⟩, ?_⟩
      show os.length - (intOf (a67.eval (.tmp 13))).toNat < os.length - (intOf (a8.eval (.tmp 13))).toNat
      rw [s13, mu10]
      simp only [intOf]
      omega
    replace s37 : a34.eval (.tmp 37) = .bool true := (s37).trans (congrArg (fun b => Value.bool (!b)) (decide_eq_false hc33))
    refine c_true s37 ?_
    refine wp_seq_k fun K50 hK50 => ?_
    refine wp_region_lit ?_
    refine q_v p34.s rfl rfl rfl (g_assign rfl rfl ?_)
    intro a35 p35
    have s4 : a35.eval (.tmp 4) = .bool false := p35.v
    refine wpList_nil ?_
    replace s0 := p35.k s0 rfl
    replace s1 := p35.k s1 rfl
    replace s11 := p35.k s11 rfl
    replace s12 := p35.k s12 rfl
    replace s13 := p35.k s13 rfl
    replace s14 := p35.k s14 rfl
    replace s6 := p35.k s6 rfl
    replace s5 := p35.k s5 rfl
    replace s37 := p35.k s37 rfl
    refine hK50 _ _ ?_
    clear hK50
    refine wp_ret ?_
    try dsimp only [Exit.then, Exit.inBlock]
    refine ret1 p35.s Try.results52 (res_tmp s4) ?_
    have hat : osAt t os k = false := by unfold osAt freshO sortO; rw [wAt_eq hlt]; simp only [decide_eq_true hc13, hc27, hc29, decide_eq_false hc33, Bool.and_true, Bool.true_and, Bool.and_false, Bool.false_and, Bool.or_true, Bool.true_or, Bool.or_false, Bool.false_or, Bool.not_true, Bool.not_false, Bool.and_self]
    exact ⟨by unfold osOk; rw [osTo_fail hlt hat, Bool.and_false], hB⟩
  replace s14 : a9.eval (.tmp 14) = .bool false := (s14).trans (congrArg Value.bool (decide_eq_false hc13))
  refine c_false s14 ?_
  refine wp_exit ?_
  refine hK6 _ _ ?_
  clear hK6
  refine wp_seq_k fun K51 hK51 => ?_
  refine wp_region_lit ?_
  refine q_v p9.s rfl rfl rfl (g_assign rfl rfl ?_)
  intro a10 p10
  have s4 : a10.eval (.tmp 4) = .bool true := p10.v
  refine wpList_nil ?_
  refine hK51 _ _ ?_
  clear hK51
  refine wp_ret ?_
  try dsimp only [Exit.then, Exit.inBlock]
  refine ret1 p10.s Try.results52 (res_tmp s4) ?_
  have hkz : k = os.length := by omega
  subst hkz
  exact ⟨by unfold osOk; rw [decide_eq_true (by omega : os.length ≤ 40), hst]; rfl, hB⟩
end Go.Proofs.Ytoccapmoehdohaa
