/- Contracts on a recorder's parts: the index of the record that goes first. No condition. -/
import Derived.Test.YtoccapmoehdohaaRecordRow
import Derived.Test.YtoccapmoehdohaaFlow
namespace Go.Proofs.Ytoccapmoehdohaa
open Go.RowKit

/-- The first of the records of the least priority, among the first k. -/
def leastTo (zs : List ERecord) : Nat → Nat
  | 0 => 0
  | k + 1 => if (zs.getD k default).f1 < (zs.getD (leastTo zs k) default).f1 then k else leastTo zs k
theorem leastTo_lt (zs : List ERecord) (h : 0 < zs.length) : ∀ k, k ≤ zs.length → leastTo zs k < zs.length
  | 0, _ => h
  | k + 1, hk => by
    unfold leastTo
    split
    · omega
    · exact leastTo_lt zs h k (by omega)
theorem leastTo_yes {zs : List ERecord} {k m : Nat} (hk : k < zs.length) (hm : leastTo zs k = m) (hl : m < zs.length) (h : zs[k].f1 < zs[m].f1) : leastTo zs (k + 1) = k := by
  unfold leastTo
  rw [hm, show zs.getD k default = zs[k] from by simp [hk], show zs.getD m default = zs[m] from by simp [hl], if_pos h]
theorem leastTo_no {zs : List ERecord} {k m : Nat} (hk : k < zs.length) (hm : leastTo zs k = m) (hl : m < zs.length) (h : ¬ zs[k].f1 < zs[m].f1) : leastTo zs (k + 1) = m := by
  unfold leastTo
  rw [hm, show zs.getD k default = zs[k] from by simp [hk], show zs.getD m default = zs[m] from by simp [hl], if_neg h]
set_option maxRecDepth 100000 in
set_option maxHeartbeats 4000000 in
theorem leastRecord_any (A : Option Addr) (n c : Nat) (zs : List ERecord) (w : World) (hn : zs.length = n) (hm : n ≤ 1048577) (hr_z : Rd w 4 A n (zs.flatMap cRecord)) :
    Calls Try.prog 112 #[.slice A n c] w fun e w' => e = .returned (.int .i64 (leastTo zs n : Nat)) ∧ Below w.heap.size w w' := by
  subst hn
  refine enter 24 Try.func112 rfl rfl (Nat.le_of_ble_eq_true rfl) ?_
  intro a0 hs hargs
  have s0 : a0.eval (.tmp 0) = .slice A zs.length c := hargs 0 _ rfl
  clear hargs
  have hB : Below w.heap.size w w := Below.refl _ _
  refine wp_seq_k fun K1 hK1 => ?_
  refine wp_region_lit ?_
  refine q_val rfl rfl ?_
  refine g_assign rfl rfl ?_
  intro a1 p1
  have s2 : a1.eval (.tmp 2) = .int .i64 0 := p1.at hs (by decide)
  replace hs := p1.st hs
  refine wpList_nil ?_
  replace s0 : a1.eval (.tmp 0) = .slice A zs.length c := (p1.ne rfl).trans s0
  refine hK1 _ _ ?_
  clear hK1
  refine wp_seq_k fun K2 hK2 => ?_
  refine wp_region_lit ?_
  refine q_val rfl rfl ?_
  refine g_assign rfl rfl ?_
  intro a2 p2
  have s3 : a2.eval (.tmp 3) = .int .i64 0 := p2.at hs (by decide)
  replace hs := p2.st hs
  refine wpList_nil ?_
  replace s0 : a2.eval (.tmp 0) = .slice A zs.length c := (p2.ne rfl).trans s0
  replace s2 : a2.eval (.tmp 2) = .int .i64 0 := (p2.ne rfl).trans s2
  refine hK2 _ _ ?_
  clear hK2
  refine wp_seq_k fun K3 hK3 => ?_
  refine wp_seq_k fun K4 hK4 => ?_
  refine wp_region_lit ?_
  refine q_val rfl rfl ?_
  refine g_move rfl s0 ?_
  intro a3 p3
  have s6 : a3.eval (.tmp 6) = .slice A zs.length c := p3.at hs (by decide)
  replace hs := p3.st hs
  refine q_val rfl rfl ?_
  refine g_len (e := _) rfl Try.underlying28 s6 ?_
  intro a4 p4
  have s7 : a4.eval (.tmp 7) = .int .i64 ((zs.length : Nat) : Int) := p4.at hs (by decide)
  replace hs := p4.st hs
  refine q_val rfl rfl ?_
  refine g_move rfl rfl ?_
  intro a5 p5
  have s8 : a5.eval (.tmp 8) = .int .i64 0 := p5.at hs (by decide)
  replace hs := p5.st hs
  refine wpList_nil ?_
  replace s0 : a5.eval (.tmp 0) = .slice A zs.length c := ((p5.ne rfl).trans ((p4.ne rfl).trans (p3.ne rfl))).trans s0
  replace s2 : a5.eval (.tmp 2) = .int .i64 0 := ((p5.ne rfl).trans ((p4.ne rfl).trans (p3.ne rfl))).trans s2
  replace s3 : a5.eval (.tmp 3) = .int .i64 0 := ((p5.ne rfl).trans ((p4.ne rfl).trans (p3.ne rfl))).trans s3
  replace s6 : a5.eval (.tmp 6) = .slice A zs.length c := ((p5.ne rfl).trans (p4.ne rfl)).trans s6
  replace s7 : a5.eval (.tmp 7) = .int .i64 ((zs.length : Nat) : Int) := (p5.ne rfl).trans s7
  refine hK4 _ _ ?_
  clear hK4
  refine wp_block ?_
  refine wp_loop (fun a wr => ∃ (k : Nat) (m : Nat), (St 24 a) ∧ (a.eval (.tmp 0) = .slice A zs.length c) ∧ (a.eval (.tmp 2) = .int .i64 0) ∧ (a.eval (.tmp 3) = .int .i64 ((m : Nat) : Int)) ∧ (a.eval (.tmp 6) = .slice A zs.length c) ∧ (a.eval (.tmp 7) = .int .i64 ((zs.length : Nat) : Int)) ∧ (a.eval (.tmp 8) = .int .i64 ((k : Nat) : Int)) ∧ (Below w.heap.size w wr) ∧ (k ≤ zs.length) ∧ (leastTo zs k = m)) (fun a _ => zs.length - (intOf (a.eval (.tmp 8))).toNat) (⟨0, 0, hs, s0, s2, s3, s6, s7, s8, hB, Nat.zero_le _, rfl⟩) ?_
  intro a6 w6 hIv
  obtain ⟨k, m, hs, s0, s2, s3, s6, s7, s8, hB, hk, hm⟩ := hIv
  have mu7 := s8
  refine wp_seq_k fun K8 hK8 => ?_
  refine wp_region_lit ?_
  refine q_val rfl rfl ?_
  refine g_lss rfl s8 s7 ?_
  intro a7 p7
  have s9 : a7.eval (.tmp 9) = .bool (decide (((k : Nat) : Int) < ((zs.length : Nat) : Int))) := p7.at hs (by decide)
  replace hs := p7.st hs
  refine wpList_nil ?_
  replace s0 : a7.eval (.tmp 0) = .slice A zs.length c := (p7.ne rfl).trans s0
  replace s2 : a7.eval (.tmp 2) = .int .i64 0 := (p7.ne rfl).trans s2
  replace s3 : a7.eval (.tmp 3) = .int .i64 ((m : Nat) : Int) := (p7.ne rfl).trans s3
  replace s6 : a7.eval (.tmp 6) = .slice A zs.length c := (p7.ne rfl).trans s6
  replace s7 : a7.eval (.tmp 7) = .int .i64 ((zs.length : Nat) : Int) := (p7.ne rfl).trans s7
  replace s8 : a7.eval (.tmp 8) = .int .i64 ((k : Nat) : Int) := (p7.ne rfl).trans s8
  refine hK8 _ _ ?_
  clear hK8
  refine wp_seq_k fun K9 hK9 => ?_
  by_cases hc10 : ((k : Nat) : Int) < ((zs.length : Nat) : Int)
  · replace s9 := s9.trans (congrArg Value.bool (decide_eq_true hc10))
    replace s9 : a7.eval (.tmp 9) = .bool true := s9
    refine c_true s9 ?_
    refine wp_skip ?_
    refine hK9 _ _ ?_
    clear hK9
    refine wp_seq_k fun K11 hK11 => ?_
    refine wp_block ?_
    refine wp_seq_k fun K12 hK12 => ?_
    have hlt : k < zs.length := by omega
    have hl : m < zs.length := hm ▸ leastTo_lt zs (by omega) k hk
    refine wp_region_lit ?_
    refine q_val rfl rfl ?_
    refine g_move rfl s8 ?_
    intro a8 p8
    have s10 : a8.eval (.tmp 10) = .int .i64 ((k : Nat) : Int) := p8.at hs (by decide)
    replace hs := p8.st hs
    obtain ⟨b13, o14, hA15, hl_hc16, hc16⟩ := Rd.get cRecord_len (hr_z.below hB) rfl (i := k) (by omega)
    refine q_val rfl rfl ?_
    refine g_index (r := o14 + k * 4) (k := k) rfl (((p8.ne rfl).trans s6).trans (slice_at hA15)) ((p8.ne rfl).trans s8) Try.underlying28 (fun w => Try.sizeOf47 w) (by omega) rfl ?_
    intro a9 p9
    have s11 : a9.eval (.tmp 11) = .pointer (some ⟨b13, o14 + k * 4, none⟩) := p9.at hs (by decide)
    replace hs := p9.st hs
    refine q_val rfl rfl ?_
    refine g_loadA (l := cRecord zs[k]) rfl s11 Try.isAgg47 Try.sizeOf47 rfl (fun j u hu => by rw [Nat.add_assoc]; exact hc16 j u (by have := (List.getElem?_eq_some_iff.1 hu).1; exact this) hu) ?_
    intro a10 p10
    have s12 : a10.eval (.tmp 12) = .agg #[.int .i64 (zs[k].f0), .int .i64 (zs[k].f1), .int .i64 (zs[k].f2), .string ⟨(zs[k].f3).toArray⟩] := p10.at hs (by decide)
    replace hs := p10.st hs
    refine q_val rfl rfl ?_
    refine g_alloc rfl Try.zeroValue47 rfl ?_
    intro q17 w18 N_q17
    have g_q17 : GeB w.heap.size q17 := ⟨Nat.le_trans hB.size N_q17.lo⟩
    replace hB := below_new hB hB.size N_q17
    have h_q17 := N_q17.here
    clear N_q17
    intro a11 p11
    have s5 : a11.eval (.tmp 5) = .pointer (some ⟨q17, 0, none⟩) := p11.at hs (by decide)
    replace hs := p11.st hs
    refine q_val rfl rfl ?_
    refine g_assign rfl (((p11.ne rfl).trans ((p10.ne rfl).trans (p9.ne rfl))).trans s10) ?_
    intro a12 p12
    have s4 : a12.eval (.tmp 4) = .int .i64 ((k : Nat) : Int) := p12.at hs (by decide)
    replace hs := p12.st hs
    refine q_eff rfl rfl ?_
    refine g_storeB rfl ((p12.ne rfl).trans s5) (((p12.ne rfl).trans (p11.ne rfl)).trans s12) Try.sizeOf47 rfl rfl h_q17 rfl ?_
    intro w19 W_w19
    replace h_q17 := W_w19.here
    replace hB := below_wrote hB hB.size W_w19 g_q17.le
    clear W_w19
    refine wpList_nil ?_
    replace s0 : a12.eval (.tmp 0) = .slice A zs.length c := ((p12.ne rfl).trans ((p11.ne rfl).trans ((p10.ne rfl).trans ((p9.ne rfl).trans (p8.ne rfl))))).trans s0
    replace s2 : a12.eval (.tmp 2) = .int .i64 0 := ((p12.ne rfl).trans ((p11.ne rfl).trans ((p10.ne rfl).trans ((p9.ne rfl).trans (p8.ne rfl))))).trans s2
    replace s3 : a12.eval (.tmp 3) = .int .i64 ((m : Nat) : Int) := ((p12.ne rfl).trans ((p11.ne rfl).trans ((p10.ne rfl).trans ((p9.ne rfl).trans (p8.ne rfl))))).trans s3
    replace s6 : a12.eval (.tmp 6) = .slice A zs.length c := ((p12.ne rfl).trans ((p11.ne rfl).trans ((p10.ne rfl).trans ((p9.ne rfl).trans (p8.ne rfl))))).trans s6
    replace s7 : a12.eval (.tmp 7) = .int .i64 ((zs.length : Nat) : Int) := ((p12.ne rfl).trans ((p11.ne rfl).trans ((p10.ne rfl).trans ((p9.ne rfl).trans (p8.ne rfl))))).trans s7
    replace s8 : a12.eval (.tmp 8) = .int .i64 ((k : Nat) : Int) := ((p12.ne rfl).trans ((p11.ne rfl).trans ((p10.ne rfl).trans ((p9.ne rfl).trans (p8.ne rfl))))).trans s8
    replace s9 : a12.eval (.tmp 9) = .bool true := ((p12.ne rfl).trans ((p11.ne rfl).trans ((p10.ne rfl).trans ((p9.ne rfl).trans (p8.ne rfl))))).trans s9
    replace s5 : a12.eval (.tmp 5) = .pointer (some ⟨q17, 0, none⟩) := (p12.ne rfl).trans s5
    refine hK12 _ _ ?_
    clear hK12
    refine wp_seq_k fun K20 hK20 => ?_
    obtain ⟨b21, o22, hA23, hl_hc24, hc24⟩ := Rd.get cRecord_len (hr_z.below hB) rfl (i := m) (by omega)
    refine wp_drawn (n := 24) [] [] [] (fun k_ v_ _wx => match k_ with | 0 => v_ = .pointer (some ⟨q17, 1, none⟩) | 1 => v_ = .int .i64 (zs[k].f1) | 2 => v_ = .slice A zs.length c | 3 => v_ = .int .i64 ((m : Nat) : Int) | 4 => v_ = .pointer (some ⟨b21, o22 + m * 4, none⟩) | 5 => v_ = .pointer (some ⟨b21, o22 + m * 4 + 1, none⟩) | 6 => v_ = .int .i64 (zs[m].f1) | 7 => v_ = .bool (decide (zs[k].f1 < zs[m].f1)) | _ => True) (by kernel_rfl) (by kernel_rfl) (by kernel_rfl) (by kernel_rfl) hs.size ?_ ?_ ?_
    · intro i v wa wb hb hr
      rcases i with _ | _ | _ | _ | _ | _ | _ | _ | i
      · exact hr
      · exact hr
      · exact hr
      · exact hr
      · exact hr
      · exact hr
      · exact hr
      · exact hr
      · trivial
    · refine d_step rfl rfl ?_ (d_step rfl rfl ?_ (d_step rfl rfl ?_ (d_step rfl rfl ?_ (d_step rfl rfl ?_ (d_step rfl rfl ?_ (d_step rfl rfl ?_ (d_step rfl rfl ?_ (d_nil))))))))
      · intro xv_ wx ρ hρ hwx hd K hK
        have e5 : ρ (.tmp 5) = .pointer (some ⟨q17, 0, none⟩) := (hρ.inn 5 rfl).trans s5
        refine g_field (r := 1) rfl e5 Try.underlying47 rfl (fun w => Try.sizeOf3 w) rfl rfl ?_
        exact hK _ _ (Below.refl _ _) rfl
      · intro xv_ wx ρ hρ hwx hd K hK
        obtain r0 : xv_ 0 = .pointer (some ⟨q17, 1, none⟩) := hd 0 rfl
        have e13 : ρ (.tmp 13) = .pointer (some ⟨q17, 1, none⟩) := (hρ.out 0 13 rfl (by rw [hs.size]; decide) rfl).trans r0
        have h_q17 := keep_below h_q17 hwx
        refine g_load rfl e13 Try.isAgg3 (box_cell h_q17 rfl) ?_
        exact hK _ _ (Below.refl _ _) rfl
      · intro xv_ wx ρ hρ hwx hd K hK
        have e0 : ρ (.tmp 0) = .slice A zs.length c := (hρ.inn 0 rfl).trans s0
        refine g_move rfl e0 ?_
        exact hK _ _ (Below.refl _ _) rfl
      · intro xv_ wx ρ hρ hwx hd K hK
        have e3 : ρ (.tmp 3) = .int .i64 ((m : Nat) : Int) := (hρ.inn 3 rfl).trans s3
        refine g_move rfl e3 ?_
        exact hK _ _ (Below.refl _ _) rfl
      · intro xv_ wx ρ hρ hwx hd K hK
        obtain r2 : xv_ 2 = .slice A zs.length c := hd 2 rfl
        have e15 : ρ (.tmp 15) = .slice A zs.length c := (hρ.out 2 15 rfl (by rw [hs.size]; decide) rfl).trans r2
        obtain r3 : xv_ 3 = .int .i64 ((m : Nat) : Int) := hd 3 rfl
        have e16 : ρ (.tmp 16) = .int .i64 ((m : Nat) : Int) := (hρ.out 3 16 rfl (by rw [hs.size]; decide) rfl).trans r3
        refine g_index (r := o22 + m * 4) (k := m) rfl (e15.trans (slice_at hA23)) e16 Try.underlying28 (fun w => Try.sizeOf47 w) (by omega) rfl ?_
        exact hK _ _ (Below.refl _ _) rfl
      · intro xv_ wx ρ hρ hwx hd K hK
        obtain r4 : xv_ 4 = .pointer (some ⟨b21, o22 + m * 4, none⟩) := hd 4 rfl
        have e17 : ρ (.tmp 17) = .pointer (some ⟨b21, o22 + m * 4, none⟩) := (hρ.out 4 17 rfl (by rw [hs.size]; decide) rfl).trans r4
        refine g_field (r := o22 + m * 4 + 1) rfl e17 Try.underlying47 rfl (fun w => Try.sizeOf3 w) rfl rfl ?_
        exact hK _ _ (Below.refl _ _) rfl
      · intro xv_ wx ρ hρ hwx hd K hK
        obtain r5 : xv_ 5 = .pointer (some ⟨b21, o22 + m * 4 + 1, none⟩) := hd 5 rfl
        have e18 : ρ (.tmp 18) = .pointer (some ⟨b21, o22 + m * 4 + 1, none⟩) := (hρ.out 5 18 rfl (by rw [hs.size]; decide) rfl).trans r5
        have hc24 := elem_below hc24 hwx hl_hc24
        refine g_load rfl e18 Try.isAgg3 (by first | exact hc24 1 _ (by decide) rfl | (rw [Nat.add_assoc]; exact hc24 1 _ (by decide) rfl)) ?_
        exact hK _ _ (Below.refl _ _) rfl
      · intro xv_ wx ρ hρ hwx hd K hK
        obtain r1 : xv_ 1 = .int .i64 (zs[k].f1) := hd 1 rfl
        have e14 : ρ (.tmp 14) = .int .i64 (zs[k].f1) := (hρ.out 1 14 rfl (by rw [hs.size]; decide) rfl).trans r1
        obtain r6 : xv_ 6 = .int .i64 (zs[m].f1) := hd 6 rfl
        have e19 : ρ (.tmp 19) = .int .i64 (zs[m].f1) := (hρ.out 6 19 rfl (by rw [hs.size]; decide) rfl).trans r6
        refine g_lss rfl e14 e19 ?_
        exact hK _ _ (Below.refl _ _) rfl
    · intro x0_ w25 hb_w25 hr0
      obtain r0 : x0_ 0 = .pointer (some ⟨q17, 1, none⟩) := hr0 0 (by decide) rfl rfl
      obtain r1 : x0_ 1 = .int .i64 (zs[k].f1) := hr0 1 (by decide) rfl rfl
      obtain r2 : x0_ 2 = .slice A zs.length c := hr0 2 (by decide) rfl rfl
      obtain r3 : x0_ 3 = .int .i64 ((m : Nat) : Int) := hr0 3 (by decide) rfl rfl
      obtain r4 : x0_ 4 = .pointer (some ⟨b21, o22 + m * 4, none⟩) := hr0 4 (by decide) rfl rfl
      obtain r5 : x0_ 5 = .pointer (some ⟨b21, o22 + m * 4 + 1, none⟩) := hr0 5 (by decide) rfl rfl
      obtain r6 : x0_ 6 = .int .i64 (zs[m].f1) := hr0 6 (by decide) rfl rfl
      obtain r7 : x0_ 7 = .bool (decide (zs[k].f1 < zs[m].f1)) := hr0 7 (by decide) rfl rfl
      clear hr0
      replace h_q17 := keep_below h_q17 hb_w25
      replace hB := hB.trans (hb_w25.mono hB.size)
      clear hb_w25
      intro xv_ a13 hρ hsz hdf qx_ ql_ qk_ qlk_
      replace s0 : a13.eval (.tmp 0) = .slice A zs.length c := (hρ.inn 0 rfl).trans s0
      replace s2 : a13.eval (.tmp 2) = .int .i64 0 := (hρ.inn 2 rfl).trans s2
      replace s3 : a13.eval (.tmp 3) = .int .i64 ((m : Nat) : Int) := (hρ.inn 3 rfl).trans s3
      replace s4 : a13.eval (.tmp 4) = .int .i64 ((k : Nat) : Int) := (hρ.inn 4 rfl).trans s4
      replace s5 : a13.eval (.tmp 5) = .pointer (some ⟨q17, 0, none⟩) := (hρ.inn 5 rfl).trans s5
      replace s6 : a13.eval (.tmp 6) = .slice A zs.length c := (hρ.inn 6 rfl).trans s6
      replace s7 : a13.eval (.tmp 7) = .int .i64 ((zs.length : Nat) : Int) := (hρ.inn 7 rfl).trans s7
      replace s8 : a13.eval (.tmp 8) = .int .i64 ((k : Nat) : Int) := (hρ.inn 8 rfl).trans s8
      replace s9 : a13.eval (.tmp 9) = .bool true := (hρ.inn 9 rfl).trans s9
      have s20 : a13.eval (.tmp 20) = .bool (decide (zs[k].f1 < zs[m].f1)) := (hρ.out 7 20 rfl (by rw [hs.size]; decide)).trans ((qx_ 7 (by decide) rfl rfl).trans r7)
      replace hs : St 24 a13 := ⟨hsz.trans hs.size, hdf.trans hs.nodef⟩
      clear hρ hsz hdf qx_ ql_ qk_ qlk_
      refine hK20 _ _ ?_
      clear hK20
      by_cases hcmp : zs[k].f1 < zs[m].f1
      · replace s20 := s20.trans (congrArg Value.bool (decide_eq_true hcmp))
        replace s20 : a13.eval (.tmp 20) = .bool true := s20
        refine c_true s20 ?_
        refine wp_region_lit ?_
        refine q_val rfl rfl ?_
        refine g_move rfl s4 ?_
        intro a14 p14
        have s21 : a14.eval (.tmp 21) = .int .i64 ((k : Nat) : Int) := p14.at hs (by decide)
        replace hs := p14.st hs
        refine q_val rfl rfl ?_
        refine g_assign rfl s21 ?_
        intro a15 p15
        have s3 : a15.eval (.tmp 3) = .int .i64 ((k : Nat) : Int) := p15.at hs (by decide)
        replace hs := p15.st hs
        refine wpList_nil ?_
        replace s0 : a15.eval (.tmp 0) = .slice A zs.length c := ((p15.ne rfl).trans (p14.ne rfl)).trans s0
        replace s2 : a15.eval (.tmp 2) = .int .i64 0 := ((p15.ne rfl).trans (p14.ne rfl)).trans s2
        replace s4 : a15.eval (.tmp 4) = .int .i64 ((k : Nat) : Int) := ((p15.ne rfl).trans (p14.ne rfl)).trans s4
        replace s5 : a15.eval (.tmp 5) = .pointer (some ⟨q17, 0, none⟩) := ((p15.ne rfl).trans (p14.ne rfl)).trans s5
        replace s6 : a15.eval (.tmp 6) = .slice A zs.length c := ((p15.ne rfl).trans (p14.ne rfl)).trans s6
        replace s7 : a15.eval (.tmp 7) = .int .i64 ((zs.length : Nat) : Int) := ((p15.ne rfl).trans (p14.ne rfl)).trans s7
        replace s8 : a15.eval (.tmp 8) = .int .i64 ((k : Nat) : Int) := ((p15.ne rfl).trans (p14.ne rfl)).trans s8
        replace s9 : a15.eval (.tmp 9) = .bool true := ((p15.ne rfl).trans (p14.ne rfl)).trans s9
        replace s20 : a15.eval (.tmp 20) = .bool true := ((p15.ne rfl).trans (p14.ne rfl)).trans s20
        refine hK11 _ _ ?_
        clear hK11
        refine wp_region_lit ?_
        refine q_val rfl rfl ?_
        refine g_add (r := ((k + 1 : Nat) : Int)) rfl s8 rfl (by omega) (by omega) ?_
        intro a16 p16
        have s22 : a16.eval (.tmp 22) = .int .i64 ((k + 1 : Nat) : Int) := p16.at hs (by decide)
        replace hs := p16.st hs
        refine q_val rfl rfl ?_
        refine g_move rfl s22 ?_
        intro a17 p17
        have s8 : a17.eval (.tmp 8) = .int .i64 ((k + 1 : Nat) : Int) := p17.at hs (by decide)
        replace hs := p17.st hs
        refine wpList_nil ?_
        replace s0 : a17.eval (.tmp 0) = .slice A zs.length c := ((p17.ne rfl).trans (p16.ne rfl)).trans s0
        replace s2 : a17.eval (.tmp 2) = .int .i64 0 := ((p17.ne rfl).trans (p16.ne rfl)).trans s2
        replace s3 : a17.eval (.tmp 3) = .int .i64 ((k : Nat) : Int) := ((p17.ne rfl).trans (p16.ne rfl)).trans s3
        replace s4 : a17.eval (.tmp 4) = .int .i64 ((k : Nat) : Int) := ((p17.ne rfl).trans (p16.ne rfl)).trans s4
        replace s5 : a17.eval (.tmp 5) = .pointer (some ⟨q17, 0, none⟩) := ((p17.ne rfl).trans (p16.ne rfl)).trans s5
        replace s6 : a17.eval (.tmp 6) = .slice A zs.length c := ((p17.ne rfl).trans (p16.ne rfl)).trans s6
        replace s7 : a17.eval (.tmp 7) = .int .i64 ((zs.length : Nat) : Int) := ((p17.ne rfl).trans (p16.ne rfl)).trans s7
        replace s9 : a17.eval (.tmp 9) = .bool true := ((p17.ne rfl).trans (p16.ne rfl)).trans s9
        replace s20 : a17.eval (.tmp 20) = .bool true := ((p17.ne rfl).trans (p16.ne rfl)).trans s20
        refine show _ ∧ _ from ⟨⟨k + 1, k, hs, s0, s2, s3, s6, s7, s8, hB, by omega, leastTo_yes hlt hm hl hcmp⟩, ?_⟩
        show zs.length - (intOf (a17.eval (.tmp 8))).toNat < zs.length - (intOf (a6.eval (.tmp 8))).toNat
        rw [s8, mu7]
        simp only [intOf]
        omega
      · replace s20 := s20.trans (congrArg Value.bool (decide_eq_false hcmp))
        replace s20 : a13.eval (.tmp 20) = .bool false := s20
        refine c_false s20 ?_
        refine wp_skip ?_
        refine hK11 _ _ ?_
        clear hK11
        refine wp_region_lit ?_
        refine q_val rfl rfl ?_
        refine g_add (r := ((k + 1 : Nat) : Int)) rfl s8 rfl (by omega) (by omega) ?_
        intro a14 p14
        have s22 : a14.eval (.tmp 22) = .int .i64 ((k + 1 : Nat) : Int) := p14.at hs (by decide)
        replace hs := p14.st hs
        refine q_val rfl rfl ?_
        refine g_move rfl s22 ?_
        intro a15 p15
        have s8 : a15.eval (.tmp 8) = .int .i64 ((k + 1 : Nat) : Int) := p15.at hs (by decide)
        replace hs := p15.st hs
        refine wpList_nil ?_
        replace s0 : a15.eval (.tmp 0) = .slice A zs.length c := ((p15.ne rfl).trans (p14.ne rfl)).trans s0
        replace s2 : a15.eval (.tmp 2) = .int .i64 0 := ((p15.ne rfl).trans (p14.ne rfl)).trans s2
        replace s3 : a15.eval (.tmp 3) = .int .i64 ((m : Nat) : Int) := ((p15.ne rfl).trans (p14.ne rfl)).trans s3
        replace s4 : a15.eval (.tmp 4) = .int .i64 ((k : Nat) : Int) := ((p15.ne rfl).trans (p14.ne rfl)).trans s4
        replace s5 : a15.eval (.tmp 5) = .pointer (some ⟨q17, 0, none⟩) := ((p15.ne rfl).trans (p14.ne rfl)).trans s5
        replace s6 : a15.eval (.tmp 6) = .slice A zs.length c := ((p15.ne rfl).trans (p14.ne rfl)).trans s6
        replace s7 : a15.eval (.tmp 7) = .int .i64 ((zs.length : Nat) : Int) := ((p15.ne rfl).trans (p14.ne rfl)).trans s7
        replace s9 : a15.eval (.tmp 9) = .bool true := ((p15.ne rfl).trans (p14.ne rfl)).trans s9
        replace s20 : a15.eval (.tmp 20) = .bool false := ((p15.ne rfl).trans (p14.ne rfl)).trans s20
        refine show _ ∧ _ from ⟨⟨k + 1, m, hs, s0, s2, s3, s6, s7, s8, hB, by omega, leastTo_no hlt hm hl hcmp⟩, ?_⟩
        show zs.length - (intOf (a15.eval (.tmp 8))).toNat < zs.length - (intOf (a6.eval (.tmp 8))).toNat
        rw [s8, mu7]
        simp only [intOf]
        omega
  · replace s9 := s9.trans (congrArg Value.bool (decide_eq_false hc10))
    replace s9 : a7.eval (.tmp 9) = .bool false := s9
    refine c_false s9 ?_
    refine wp_exit ?_
    refine hK3 _ _ ?_
    clear hK3
    refine wp_seq_k fun K26 hK26 => ?_
    refine wp_region_lit ?_
    refine q_val rfl rfl ?_
    refine g_move rfl s3 ?_
    intro a8 p8
    have s23 : a8.eval (.tmp 23) = .int .i64 ((m : Nat) : Int) := p8.at hs (by decide)
    replace hs := p8.st hs
    refine q_val rfl rfl ?_
    refine g_assign rfl s23 ?_
    intro a9 p9
    have s2 : a9.eval (.tmp 2) = .int .i64 ((m : Nat) : Int) := p9.at hs (by decide)
    replace hs := p9.st hs
    refine wpList_nil ?_
    refine hK26 _ _ ?_
    clear hK26
    refine wp_ret ?_
    refine ret1 hs Try.results112 s2 ⟨?_, hB⟩
    have : k = zs.length := by omega
    subst this
    rw [hm]
end Go.Proofs.Ytoccapmoehdohaa
