/- Contract: slices.Delete of one record out of a row of the call's own. No condition. -/
import Derived.Test.YtnjopeonmenopaaRecordRow
import Derived.Test.YtnjopeonmenopaaFlowDel
namespace Go.Proofs.Ytnjopeonmenopaa
open Go.RowKit

set_option maxHeartbeats 4000000 in
theorem deleteRecord_any {base : Nat} {A : Option Addr} {n c k : Nat} {zs : List ERecord} (w : World) (hn : zs.length = n) (hk : k < n) (hm : n ≤ 1048577) (o_z : w.ownsRow base 26 4 (.slice A n c) n (zs.flatMap cRecord)) :
    Calls Try.prog 61 #[.slice A n c, .int .i64 ((k : Nat) : Int), .int .i64 ((k + 1 : Nat) : Int)] w fun e w' => e = .returned (.slice A (n - 1) c) ∧ w'.ownsRow base 26 4 (.slice A (n - 1) c) (n - 1) ((zs.eraseIdx k).flatMap cRecord) ∧ w.grownBy w' (A.map (·.block)) := by
  subst hn
  obtain ⟨g, rfl⟩ := own_some o_z (by omega)
  refine enter 33 Try.func61 rfl rfl (Nat.le_of_ble_eq_true rfl) ?_
  intro a0 hs hargs
  have s0 : a0.eval (.tmp 0) = .slice (some ⟨g, 0, none⟩) zs.length c := hargs 0 _ rfl
  have s1 : a0.eval (.tmp 1) = .int .i64 ((k : Nat) : Int) := hargs 1 _ rfl
  have s2 : a0.eval (.tmp 2) = .int .i64 ((k + 1 : Nat) : Int) := hargs 2 _ rfl
  clear hargs
  have hnc := (own_cap o_z).1
  refine wp_seq_k fun K1 hK1 => ?_
  refine wp_region_lit ?_
  refine q_val rfl rfl ?_
  refine g_assign rfl rfl ?_
  intro a1 p1
  have s6 : a1.eval (.tmp 6) = .slice none 0 0 := p1.at hs (by decide)
  replace hs := p1.st hs
  refine wpList_nil ?_
  replace s0 : a1.eval (.tmp 0) = .slice (some ⟨g, 0, none⟩) zs.length c := (p1.ne rfl).trans s0
  replace s1 : a1.eval (.tmp 1) = .int .i64 ((k : Nat) : Int) := (p1.ne rfl).trans s1
  replace s2 : a1.eval (.tmp 2) = .int .i64 ((k + 1 : Nat) : Int) := (p1.ne rfl).trans s2
  refine hK1 _ _ ?_
  clear hK1
  refine wp_seq_k fun K2 hK2 => ?_
  refine wp_region_lit ?_
  refine q_val rfl rfl ?_
  refine g_move rfl s0 ?_
  intro a2 p2
  have s8 : a2.eval (.tmp 8) = .slice (some ⟨g, 0, none⟩) zs.length c := p2.at hs (by decide)
  replace hs := p2.st hs
  refine q_val rfl rfl ?_
  refine g_move rfl ((p2.ne rfl).trans s1) ?_
  intro a3 p3
  have s9 : a3.eval (.tmp 9) = .int .i64 ((k : Nat) : Int) := p3.at hs (by decide)
  replace hs := p3.st hs
  refine q_val rfl rfl ?_
  refine g_move rfl (((p3.ne rfl).trans (p2.ne rfl)).trans s2) ?_
  intro a4 p4
  have s10 : a4.eval (.tmp 10) = .int .i64 ((k + 1 : Nat) : Int) := p4.at hs (by decide)
  replace hs := p4.st hs
  refine q_val rfl rfl ?_
  refine g_move rfl (((p4.ne rfl).trans ((p3.ne rfl).trans (p2.ne rfl))).trans s0) ?_
  intro a5 p5
  have s11 : a5.eval (.tmp 11) = .slice (some ⟨g, 0, none⟩) zs.length c := p5.at hs (by decide)
  replace hs := p5.st hs
  refine q_val rfl rfl ?_
  refine g_len (e := _) rfl Try.underlying47 s11 ?_
  intro a6 p6
  have s12 : a6.eval (.tmp 12) = .int .i64 ((zs.length : Nat) : Int) := p6.at hs (by decide)
  replace hs := p6.st hs
  refine q_val rfl rfl ?_
  refine g_slice3 (i := k) (j := k + 1) (m := zs.length) rfl (((p6.ne rfl).trans ((p5.ne rfl).trans ((p4.ne rfl).trans (p3.ne rfl)))).trans s8) (((p6.ne rfl).trans ((p5.ne rfl).trans (p4.ne rfl))).trans s9) (((p6.ne rfl).trans (p5.ne rfl)).trans s10) s12 Try.underlying47 (fun w => Try.sizeOf26 w) (by omega) (by omega) hnc ?_
  intro vs
  intro a7 p7
  have s13 : a7.eval (.tmp 13) = vs := p7.at hs (by decide)
  replace hs := p7.st hs
  refine wpList_nil ?_
  replace s0 : a7.eval (.tmp 0) = .slice (some ⟨g, 0, none⟩) zs.length c := ((p7.ne rfl).trans ((p6.ne rfl).trans ((p5.ne rfl).trans ((p4.ne rfl).trans ((p3.ne rfl).trans (p2.ne rfl)))))).trans s0
  replace s1 : a7.eval (.tmp 1) = .int .i64 ((k : Nat) : Int) := ((p7.ne rfl).trans ((p6.ne rfl).trans ((p5.ne rfl).trans ((p4.ne rfl).trans ((p3.ne rfl).trans (p2.ne rfl)))))).trans s1
  replace s2 : a7.eval (.tmp 2) = .int .i64 ((k + 1 : Nat) : Int) := ((p7.ne rfl).trans ((p6.ne rfl).trans ((p5.ne rfl).trans ((p4.ne rfl).trans ((p3.ne rfl).trans (p2.ne rfl)))))).trans s2
  replace s6 : a7.eval (.tmp 6) = .slice none 0 0 := ((p7.ne rfl).trans ((p6.ne rfl).trans ((p5.ne rfl).trans ((p4.ne rfl).trans ((p3.ne rfl).trans (p2.ne rfl)))))).trans s6
  refine hK2 _ _ ?_
  clear hK2
  refine wp_seq_k fun K3 hK3 => ?_
  refine wp_seq_k fun K4 hK4 => ?_
  refine wp_region_lit ?_
  refine q_val rfl rfl ?_
  refine g_move rfl s1 ?_
  intro a8 p8
  have s14 : a8.eval (.tmp 14) = .int .i64 ((k : Nat) : Int) := p8.at hs (by decide)
  replace hs := p8.st hs
  refine q_val rfl rfl ?_
  refine g_move rfl ((p8.ne rfl).trans s2) ?_
  intro a9 p9
  have s15 : a9.eval (.tmp 15) = .int .i64 ((k + 1 : Nat) : Int) := p9.at hs (by decide)
  replace hs := p9.st hs
  refine q_val rfl rfl ?_
  refine g_eql rfl ((p9.ne rfl).trans s14) s15 ?_
  intro a10 p10
  have s16 : a10.eval (.tmp 16) = .bool false := (p10.at hs (by decide)).trans (congrArg Value.bool (decide_eq_false (by omega)))
  replace hs := p10.st hs
  refine wpList_nil ?_
  replace s0 : a10.eval (.tmp 0) = .slice (some ⟨g, 0, none⟩) zs.length c := ((p10.ne rfl).trans ((p9.ne rfl).trans (p8.ne rfl))).trans s0
  replace s1 : a10.eval (.tmp 1) = .int .i64 ((k : Nat) : Int) := ((p10.ne rfl).trans ((p9.ne rfl).trans (p8.ne rfl))).trans s1
  replace s2 : a10.eval (.tmp 2) = .int .i64 ((k + 1 : Nat) : Int) := ((p10.ne rfl).trans ((p9.ne rfl).trans (p8.ne rfl))).trans s2
  replace s6 : a10.eval (.tmp 6) = .slice none 0 0 := ((p10.ne rfl).trans ((p9.ne rfl).trans (p8.ne rfl))).trans s6
  refine hK4 _ _ ?_
  clear hK4
  refine c_false s16 ?_
  refine wp_skip ?_
  refine hK3 _ _ ?_
  clear hK3
  refine wp_seq_k fun K5 hK5 => ?_
  refine wp_region_lit ?_
  refine q_val rfl rfl ?_
  refine g_move rfl s0 ?_
  intro a11 p11
  have s18 : a11.eval (.tmp 18) = .slice (some ⟨g, 0, none⟩) zs.length c := p11.at hs (by decide)
  replace hs := p11.st hs
  refine q_val rfl rfl ?_
  refine g_len (e := _) rfl Try.underlying47 s18 ?_
  intro a12 p12
  have s19 : a12.eval (.tmp 19) = .int .i64 ((zs.length : Nat) : Int) := p12.at hs (by decide)
  replace hs := p12.st hs
  refine q_val rfl rfl ?_
  refine g_assign rfl s19 ?_
  intro a13 p13
  have s7 : a13.eval (.tmp 7) = .int .i64 ((zs.length : Nat) : Int) := p13.at hs (by decide)
  replace hs := p13.st hs
  refine wpList_nil ?_
  replace s0 : a13.eval (.tmp 0) = .slice (some ⟨g, 0, none⟩) zs.length c := ((p13.ne rfl).trans ((p12.ne rfl).trans (p11.ne rfl))).trans s0
  replace s1 : a13.eval (.tmp 1) = .int .i64 ((k : Nat) : Int) := ((p13.ne rfl).trans ((p12.ne rfl).trans (p11.ne rfl))).trans s1
  replace s2 : a13.eval (.tmp 2) = .int .i64 ((k + 1 : Nat) : Int) := ((p13.ne rfl).trans ((p12.ne rfl).trans (p11.ne rfl))).trans s2
  replace s6 : a13.eval (.tmp 6) = .slice none 0 0 := ((p13.ne rfl).trans ((p12.ne rfl).trans (p11.ne rfl))).trans s6
  refine hK5 _ _ ?_
  clear hK5
  refine wp_seq_k fun K6 hK6 => ?_
  obtain ⟨A8, hA_v9⟩ : ∃ x_, x_ = tailA 4 (some ⟨g, 0, none⟩) c (k + 1) := ⟨_, rfl⟩
  have T_v9 : Tail 4 (some ⟨g, 0, none⟩) A8 zs.length c (k + 1) := hA_v9 ▸ tailA_of 4 (some ⟨g, 0, none⟩) zs.length c (k + 1) hnc
  refine wp_drawn (n := 33) [7] [6] [(7, 6)] (fun k_ v_ _wx => match k_ with | 0 => v_ = .slice (some ⟨g, 0, none⟩) zs.length c | 1 => v_ = .int .i64 ((k : Nat) : Int) | 2 => v_ = .slice (some ⟨g, 0, none⟩) k c | 3 => v_ = .slice (some ⟨g, 0, none⟩) zs.length c | 4 => v_ = .int .i64 ((k + 1 : Nat) : Int) | 5 => v_ = .slice A8 (zs.length - (k + 1)) (c - (k + 1)) | _ => True) (by kernel_rfl) (by kernel_rfl) (by kernel_rfl) (by kernel_rfl) hs.size ?_ ?_ ?_
  · intro i v wa wb hb hr
    rcases i with _ | _ | _ | _ | _ | _ | _ | _ | i
    · exact hr
    · exact hr
    · exact hr
    · exact hr
    · exact hr
    · exact hr
    · trivial
    · trivial
    · trivial
  · refine d_step rfl rfl ?_ (d_step rfl rfl ?_ (d_step rfl rfl ?_ (d_step rfl rfl ?_ (d_step rfl rfl ?_ (d_step rfl rfl ?_ (d_chain rfl (d_late rfl rfl ?_ (d_nil))))))))
    · intro xv_ wx ρ hρ hwx hd K hK
      have e0 : ρ (.tmp 0) = .slice (some ⟨g, 0, none⟩) zs.length c := (hρ.inn 0 rfl).trans s0
      refine g_move rfl e0 ?_
      exact hK _ _ (Below.refl _ _) rfl
    · intro xv_ wx ρ hρ hwx hd K hK
      have e1 : ρ (.tmp 1) = .int .i64 ((k : Nat) : Int) := (hρ.inn 1 rfl).trans s1
      refine g_move rfl e1 ?_
      exact hK _ _ (Below.refl _ _) rfl
    · intro xv_ wx ρ hρ hwx hd K hK
      obtain r0 : xv_ 0 = .slice (some ⟨g, 0, none⟩) zs.length c := hd 0 rfl
      have e20 : ρ (.tmp 20) = .slice (some ⟨g, 0, none⟩) zs.length c := (hρ.out 0 20 rfl (by rw [hs.size]; decide) rfl).trans r0
      obtain r1 : xv_ 1 = .int .i64 ((k : Nat) : Int) := hd 1 rfl
      have e21 : ρ (.tmp 21) = .int .i64 ((k : Nat) : Int) := (hρ.out 1 21 rfl (by rw [hs.size]; decide) rfl).trans r1
      refine g_head rfl e20 e21 Try.underlying47 (fun w => Try.sizeOf26 w) (by have := hnc; omega) ?_
      exact hK _ _ (Below.refl _ _) rfl
    · intro xv_ wx ρ hρ hwx hd K hK
      have e0 : ρ (.tmp 0) = .slice (some ⟨g, 0, none⟩) zs.length c := (hρ.inn 0 rfl).trans s0
      refine g_move rfl e0 ?_
      exact hK _ _ (Below.refl _ _) rfl
    · intro xv_ wx ρ hρ hwx hd K hK
      have e2 : ρ (.tmp 2) = .int .i64 ((k + 1 : Nat) : Int) := (hρ.inn 2 rfl).trans s2
      refine g_move rfl e2 ?_
      exact hK _ _ (Below.refl _ _) rfl
    · intro xv_ wx ρ hρ hwx hd K hK
      obtain r3 : xv_ 3 = .slice (some ⟨g, 0, none⟩) zs.length c := hd 3 rfl
      have e23 : ρ (.tmp 23) = .slice (some ⟨g, 0, none⟩) zs.length c := (hρ.out 3 23 rfl (by rw [hs.size]; decide) rfl).trans r3
      obtain r4 : xv_ 4 = .int .i64 ((k + 1 : Nat) : Int) := hd 4 rfl
      have e24 : ρ (.tmp 24) = .int .i64 ((k + 1 : Nat) : Int) := (hρ.out 4 24 rfl (by rw [hs.size]; decide) rfl).trans r4
      refine g_tailD rfl e23 e24 Try.underlying47 (fun w => Try.sizeOf26 w) (by omega) rfl rfl hA_v9 ?_
      exact hK _ _ (Below.refl _ _) rfl
    · intro xv_ wx ρ hρ hwx hd
      exact ⟨_, fun w' => l_assign rfl rfl, trivial⟩
  · intro x0_ w10 hb_w10 hr0
    obtain r0 : x0_ 0 = .slice (some ⟨g, 0, none⟩) zs.length c := hr0 0 (by decide) rfl rfl
    obtain r1 : x0_ 1 = .int .i64 ((k : Nat) : Int) := hr0 1 (by decide) rfl rfl
    obtain r2 : x0_ 2 = .slice (some ⟨g, 0, none⟩) k c := hr0 2 (by decide) rfl rfl
    obtain r3 : x0_ 3 = .slice (some ⟨g, 0, none⟩) zs.length c := hr0 3 (by decide) rfl rfl
    obtain r4 : x0_ 4 = .int .i64 ((k + 1 : Nat) : Int) := hr0 4 (by decide) rfl rfl
    obtain r5 : x0_ 5 = .slice A8 (zs.length - (k + 1)) (c - (k + 1)) := hr0 5 (by decide) rfl rfl
    clear hr0
    have hG : w.grownBy w10 (some g) := grown_from_below hb_w10
    replace o_z := own_below o_z hb_w10
    clear hb_w10
    intro op_ ho_ xv_ ρ hρ qx_ ql_ qk_
    obtain rfl := Option.some.inj ho_
    clear ho_
    have e22 : ρ (.tmp 22) = .slice (some ⟨g, 0, none⟩) k c := (hρ.out 2 22 rfl (by rw [hs.size]; decide) rfl).trans ((qx_ 2 (by decide) rfl rfl).trans r2)
    have e25 : ρ (.tmp 25) = .slice A8 (zs.length - (k + 1)) (c - (k + 1)) := (hρ.out 5 25 rfl (by rw [hs.size]; decide) rfl).trans ((qx_ 5 (by decide) rfl rfl).trans r5)
    refine g_append_shift cRecord base (.agg #[.int .i64 0, .int .i64 0, .int .i64 0, .string ⟨#[]⟩]) 4 40 zs rfl e22 e25 Try.underlying47 infoRecord cRecord_len cRecord_one rfl hk o_z T_v9 ?_
    intro w8 o8 h8
    replace o_z := o8
    replace hG := grown_trans' hG h8
    clear e22 e25
    clear hρ qx_ ql_ qk_
    intro xv_ a14 hρ hsz hdf qx_ ql_ qk_ qlk_
    have s0 : a14.eval (.tmp 0) = .slice (some ⟨g, 0, none⟩) (zs.length - 1) c := (hρ.out 7 0 rfl (by rw [hs.size]; decide)).trans ((qlk_ (7, 6) (by simp)).trans (qk_ (6, _) (by simp)))
    replace s6 : a14.eval (.tmp 6) = .slice none 0 0 := (hρ.inn 6 rfl).trans s6
    replace s7 : a14.eval (.tmp 7) = .int .i64 ((zs.length : Nat) : Int) := (hρ.inn 7 rfl).trans s7
    replace hs : St 33 a14 := ⟨hsz.trans hs.size, hdf.trans hs.nodef⟩
    clear hρ hsz hdf qx_ ql_ qk_ qlk_
    refine hK6 _ _ ?_
    clear hK6
    refine wp_seq_k fun K11 hK11 => ?_
    refine wp_region_lit ?_
    refine q_val rfl rfl ?_
    refine g_move rfl s0 ?_
    intro a15 p15
    have s27 : a15.eval (.tmp 27) = .slice (some ⟨g, 0, none⟩) (zs.length - 1) c := p15.at hs (by decide)
    replace hs := p15.st hs
    refine q_val rfl rfl ?_
    refine g_move rfl ((p15.ne rfl).trans s0) ?_
    intro a16 p16
    have s28 : a16.eval (.tmp 28) = .slice (some ⟨g, 0, none⟩) (zs.length - 1) c := p16.at hs (by decide)
    replace hs := p16.st hs
    refine q_val rfl rfl ?_
    refine g_len (e := _) rfl Try.underlying47 s28 ?_
    intro a17 p17
    have s29 : a17.eval (.tmp 29) = .int .i64 ((zs.length - 1 : Nat) : Int) := p17.at hs (by decide)
    replace hs := p17.st hs
    refine q_val rfl rfl ?_
    refine g_move rfl (((p17.ne rfl).trans ((p16.ne rfl).trans (p15.ne rfl))).trans s7) ?_
    intro a18 p18
    have s30 : a18.eval (.tmp 30) = .int .i64 ((zs.length : Nat) : Int) := p18.at hs (by decide)
    replace hs := p18.st hs
    refine q_val rfl rfl ?_
    refine g_slice_behind (n := zs.length - 1) (j := zs.length) rfl (((p18.ne rfl).trans ((p17.ne rfl).trans (p16.ne rfl))).trans s27) ((p18.ne rfl).trans s29) s30 Try.underlying47 (fun w => Try.sizeOf26 w) (by omega) (by omega) ?_
    intro a19 p19
    have s31 : a19.eval (.tmp 31) = .slice (some ⟨g, (zs.length - 1) * 4, none⟩) (zs.length - (zs.length - 1)) (c - (zs.length - 1)) := p19.at hs (by decide)
    replace hs := p19.st hs
    refine q_eff rfl rfl ?_
    refine g_clear_behind (base := base) (xs := (zs.eraseIdx k).flatMap cRecord) (n := zs.length - 1) (j := zs.length) rfl s31 Try.underlying47 Try.zeroValue26 rfl rfl (by omega) (by omega) o_z ?_
    intro vc w9 o9 h9
    replace o_z := o9
    replace hG := grown_trans' hG h9
    refine wpList_nil ?_
    replace s0 : a19.eval (.tmp 0) = .slice (some ⟨g, 0, none⟩) (zs.length - 1) c := ((p19.ne rfl).trans ((p18.ne rfl).trans ((p17.ne rfl).trans ((p16.ne rfl).trans (p15.ne rfl))))).trans s0
    replace s6 : a19.eval (.tmp 6) = .slice none 0 0 := ((p19.ne rfl).trans ((p18.ne rfl).trans ((p17.ne rfl).trans ((p16.ne rfl).trans (p15.ne rfl))))).trans s6
    refine hK11 _ _ ?_
    clear hK11
    refine wp_seq_k fun K12 hK12 => ?_
    refine wp_region_lit ?_
    refine q_val rfl rfl ?_
    refine g_move rfl s0 ?_
    intro a20 p20
    have s32 : a20.eval (.tmp 32) = .slice (some ⟨g, 0, none⟩) (zs.length - 1) c := p20.at hs (by decide)
    replace hs := p20.st hs
    refine q_val rfl rfl ?_
    refine g_assign rfl s32 ?_
    intro a21 p21
    have s6 : a21.eval (.tmp 6) = .slice (some ⟨g, 0, none⟩) (zs.length - 1) c := p21.at hs (by decide)
    replace hs := p21.st hs
    refine wpList_nil ?_
    refine hK12 _ _ ?_
    clear hK12
    refine wp_ret ?_
    try dsimp only [Exit.then, Exit.inBlock]
    refine ret1 hs Try.results61 (res_tmp s6) ?_
    exact ⟨rfl, o_z, hG⟩
end Go.Proofs.Ytnjopeonmenopaa
