/- Contracts: a frame and its bytes. No condition. -/
import Derived.Test.YtmcgmiapbdoocaaFrmPushW
import Derived.Test.YtmcgmiapbdoocaaSealI
import Derived.Test.YtmcgmiapbdoocaaFlowHead
namespace Go.Proofs.Ytmcgmiapbdoocaa
open Go.RowKit

def frB (x : EFrame) : List UInt8 := ((pw1 x.f0 ++ pw1 x.f1) ++ pw1 x.f2) ++ x.f3
def encF (x : EFrame) : List UInt8 := if frOk x then sealT (frB x) else []
theorem encF_yes {x : EFrame} (h : frOk x = true) : encF x = sealT (frB x) := by unfold encF; rw [if_pos h]
theorem encF_no {x : EFrame} (h : frOk x = false) : encF x = [] := by unfold encF; rw [h]; rfl
def frT (t : List UInt8) : EFrame := ⟨nth t ((0 : Nat) : Int), nth t ((1 : Nat) : Int), nth t ((2 : Nat) : Int), t.drop 3⟩
def dfO (s : List UInt8) : Bool := opOk s && (decide ((((opT s).length : Nat) : Int) = 27) && frOk (frT (opT s)))
def dfX (s : List UInt8) : EFrame := if dfO s then frT (opT s) else ⟨0, 0, 0, []⟩
theorem df_no {s : List UInt8} (h : dfO s = false) : dfX s = ⟨0, 0, 0, []⟩ := by unfold dfX; rw [h]; rfl
theorem df_yes {s : List UInt8} (h : dfO s = true) : dfX s = frT (opT s) := by unfold dfX; rw [if_pos h]
set_option maxRecDepth 100000 in
set_option maxHeartbeats 4000000 in
theorem encodeFrame_any {x : EFrame} (w : World) (hx : Txt x.f3) :
    Calls Try.prog 27 #[.agg #[.int .i64 x.f0, .int .i64 x.f1, .int .i64 x.f2, .string ⟨(x.f3).toArray⟩]] w fun e w' => e = .returned (.string ⟨(encF x).toArray⟩) ∧ Below w.heap.size w w' := by
  unfold Txt at hx
  refine enter 21 Try.func27 rfl rfl (Nat.le_of_ble_eq_true rfl) ?_
  intro a0 hs hargs
  have s0 : a0.eval (.tmp 0) = .agg #[.int .i64 x.f0, .int .i64 x.f1, .int .i64 x.f2, .string ⟨(x.f3).toArray⟩] := hargs 0 _ rfl
  clear hargs
  have hB : Below w.heap.size w w := Below.refl _ _
  refine wp_seq_k fun K1 hK1 => ?_
  refine wp_region_lit ?_
  refine q_val rfl rfl ?_
  refine g_box rfl s0 rfl ?_
  intro q2 w3 N_q2
  have g_q2 : GeB w.heap.size q2 := ⟨Nat.le_trans hB.size N_q2.lo⟩
  replace hB := below_new hB hB.size N_q2
  have h_q2 := N_q2.here
  clear N_q2
  intro a1 p1
  have s1 : a1.eval (.tmp 1) = .pointer (some ⟨q2, 0, none⟩) := p1.at hs (by decide)
  replace hs := p1.st hs
  refine q_val rfl rfl ?_
  refine g_assign rfl rfl ?_
  intro a2 p2
  have s2 : a2.eval (.tmp 2) = .string ⟨#[]⟩ := p2.at hs (by decide)
  replace hs := p2.st hs
  refine wpList_nil ?_
  replace s1 : a2.eval (.tmp 1) = .pointer (some ⟨q2, 0, none⟩) := (p2.ne rfl).trans s1
  refine hK1 _ _ ?_
  clear hK1
  refine wp_seq_k fun K4 hK4 => ?_
  refine wp_seq_k fun K5 hK5 => ?_
  refine wp_region_lit ?_
  refine q_val rfl rfl ?_
  refine g_loadB rfl s1 Try.isAgg40 Try.sizeOf40 rfl h_q2 ?_
  intro a3 p3
  have s3 : a3.eval (.tmp 3) = .agg #[.int .i64 x.f0, .int .i64 x.f1, .int .i64 x.f2, .string ⟨(x.f3).toArray⟩] := p3.at hs (by decide)
  replace hs := p3.st hs
  refine q_val rfl rfl ?_
  refine g_call rfl rfl Try.call30 (arr1 s3) ?_
  refine (frameOk_any (x := ⟨x.f0, x.f1, x.f2, x.f3⟩) _ (by unfold Txt; omega)).mono ?_
  rintro e w7 ⟨rfl, hb6⟩
  refine ⟨_, rfl, ?_⟩
  replace h_q2 := keep_below h_q2 hb6
  replace hB := hB.trans (hb6.mono hB.size)
  clear hb6
  intro a4 p4
  have s4 : a4.eval (.tmp 4) = .bool (frOk x) := p4.at hs (by decide)
  replace hs := p4.st hs
  refine q_val rfl rfl ?_
  refine g_not rfl s4 ?_
  intro a5 p5
  have s5 : a5.eval (.tmp 5) = .bool (!(frOk x)) := p5.at hs (by decide)
  replace hs := p5.st hs
  refine wpList_nil ?_
  replace s1 : a5.eval (.tmp 1) = .pointer (some ⟨q2, 0, none⟩) := ((p5.ne rfl).trans ((p4.ne rfl).trans (p3.ne rfl))).trans s1
  replace s2 : a5.eval (.tmp 2) = .string ⟨#[]⟩ := ((p5.ne rfl).trans ((p4.ne rfl).trans (p3.ne rfl))).trans s2
  refine hK5 _ _ ?_
  clear hK5
  cases h1 : frOk x
  · replace s5 := s5.trans (congrArg (fun b => Value.bool (!b)) h1)
    replace s5 : a5.eval (.tmp 5) = .bool true := s5
    refine c_true s5 ?_
    refine wp_seq_k fun K8 hK8 => ?_
    refine wp_region_lit ?_
    refine q_val rfl rfl ?_
    refine g_assign rfl rfl ?_
    intro a6 p6
    have s2 : a6.eval (.tmp 2) = .string ⟨#[]⟩ := p6.at hs (by decide)
    replace hs := p6.st hs
    refine wpList_nil ?_
    replace s1 : a6.eval (.tmp 1) = .pointer (some ⟨q2, 0, none⟩) := (p6.ne rfl).trans s1
    refine hK8 _ _ ?_
    clear hK8
    refine wp_ret ?_
    try dsimp only [Exit.then, Exit.inBlock]
    refine ret1 hs Try.results27 (res_tmp s2) ?_
    rw [encF_no h1]
    exact ⟨rfl, hB⟩
  · replace s5 := s5.trans (congrArg (fun b => Value.bool (!b)) h1)
    replace s5 : a5.eval (.tmp 5) = .bool false := s5
    refine c_false s5 ?_
    refine wp_skip ?_
    refine hK4 _ _ ?_
    clear hK4
    refine wp_seq_k fun K9 hK9 => ?_
    obtain ⟨⟨f1, f2⟩, ⟨f3, f4⟩, ⟨f5, f6⟩, f7⟩ := frOk_parts h1
    refine wp_drawn (n := 21) [] [] [] (fun k_ v_ _wx => match k_ with | 0 => v_ = .pointer (some ⟨q2, 0, none⟩) | 1 => v_ = .int .i64 x.f0 | 2 => v_ = .string ⟨(pw1 x.f0).toArray⟩ | 3 => v_ = .pointer (some ⟨q2, 1, none⟩) | 4 => v_ = .int .i64 x.f1 | 5 => v_ = .string ⟨(pw1 x.f1).toArray⟩ | 6 => v_ = .string ⟨((pw1 x.f0) ++ (pw1 x.f1)).toArray⟩ | 7 => v_ = .pointer (some ⟨q2, 2, none⟩) | 8 => v_ = .int .i64 x.f2 | 9 => v_ = .string ⟨(pw1 x.f2).toArray⟩ | 10 => v_ = .string ⟨(((pw1 x.f0) ++ (pw1 x.f1)) ++ (pw1 x.f2)).toArray⟩ | 11 => v_ = .pointer (some ⟨q2, 3, none⟩) | 12 => v_ = .string ⟨(x.f3).toArray⟩ | 13 => v_ = .string ⟨((((pw1 x.f0) ++ (pw1 x.f1)) ++ (pw1 x.f2)) ++ x.f3).toArray⟩ | 14 => v_ = .string ⟨(sealT ((((pw1 x.f0) ++ (pw1 x.f1)) ++ (pw1 x.f2)) ++ x.f3)).toArray⟩ | 15 => v_ = .string ⟨(sealT ((((pw1 x.f0) ++ (pw1 x.f1)) ++ (pw1 x.f2)) ++ x.f3)).toArray⟩ | _ => True) (by kernel_rfl) (by kernel_rfl) (by kernel_rfl) (by kernel_rfl) hs.size ?_ ?_ ?_
    · intro i v wa wb hb hr
      rcases i with _ | _ | _ | _ | _ | _ | _ | _ | _ | _ | _ | _ | _ | _ | _ | _ | i
      · exact hr
      · exact hr
      · exact hr
      · exact hr
      · exact hr
      · exact hr
      · exact hr
      · exact hr
      · exact hr
      · exact hr
      · exact hr
      · exact hr
      · exact hr
      · exact hr
      · exact hr
      · exact hr
      · trivial
    · refine d_step rfl rfl ?_ (d_step rfl rfl ?_ (d_step rfl rfl ?_ (d_step rfl rfl ?_ (d_step rfl rfl ?_ (d_step rfl rfl ?_ (d_step rfl rfl ?_ (d_step rfl rfl ?_ (d_step rfl rfl ?_ (d_step rfl rfl ?_ (d_step rfl rfl ?_ (d_step rfl rfl ?_ (d_step rfl rfl ?_ (d_step rfl rfl ?_ (d_step rfl rfl ?_ (d_step rfl rfl ?_ (d_nil))))))))))))))))
      · intro xv_ wx ρ hρ hwx hd K hK
        have e1 : ρ (.tmp 1) = .pointer (some ⟨q2, 0, none⟩) := (hρ.inn 1 rfl).trans s1
        refine g_field (r := 0) rfl e1 Try.underlying40 rfl (fun w => Try.sizeOf3 w) rfl rfl ?_
        exact hK _ _ (Below.refl _ _) rfl
      · intro xv_ wx ρ hρ hwx hd K hK
        obtain r0 : xv_ 0 = .pointer (some ⟨q2, 0, none⟩) := hd 0 rfl
        have e6 : ρ (.tmp 6) = .pointer (some ⟨q2, 0, none⟩) := (hρ.out 0 6 rfl (by rw [hs.size]; decide) rfl).trans r0
        have h_q2 := keep_below h_q2 hwx
        refine g_load rfl e6 Try.isAgg3 (box_cell h_q2 rfl) ?_
        exact hK _ _ (Below.refl _ _) rfl
      · intro xv_ wx ρ hρ hwx hd K hK
        obtain r1 : xv_ 1 = .int .i64 x.f0 := hd 1 rfl
        have e7 : ρ (.tmp 7) = .int .i64 x.f0 := (hρ.out 1 7 rfl (by rw [hs.size]; decide) rfl).trans r1
        refine g_call rfl (hρ.fn _) Try.call47 (arr2 e7 (hρ.cst _)) ?_
        refine (putWord1 _ _ (by omega) (by omega)).mono ?_
        rintro e wy ⟨rfl, hb10⟩
        exact ⟨_, rfl, hK _ _ hb10 rfl⟩
      · intro xv_ wx ρ hρ hwx hd K hK
        have e1 : ρ (.tmp 1) = .pointer (some ⟨q2, 0, none⟩) := (hρ.inn 1 rfl).trans s1
        refine g_field (r := 1) rfl e1 Try.underlying40 rfl (fun w => Try.sizeOf3 w) rfl rfl ?_
        exact hK _ _ (Below.refl _ _) rfl
      · intro xv_ wx ρ hρ hwx hd K hK
        obtain r3 : xv_ 3 = .pointer (some ⟨q2, 1, none⟩) := hd 3 rfl
        have e9 : ρ (.tmp 9) = .pointer (some ⟨q2, 1, none⟩) := (hρ.out 3 9 rfl (by rw [hs.size]; decide) rfl).trans r3
        have h_q2 := keep_below h_q2 hwx
        refine g_load rfl e9 Try.isAgg3 (box_cell h_q2 rfl) ?_
        exact hK _ _ (Below.refl _ _) rfl
      · intro xv_ wx ρ hρ hwx hd K hK
        obtain r4 : xv_ 4 = .int .i64 x.f1 := hd 4 rfl
        have e10 : ρ (.tmp 10) = .int .i64 x.f1 := (hρ.out 4 10 rfl (by rw [hs.size]; decide) rfl).trans r4
        refine g_call rfl (hρ.fn _) Try.call47 (arr2 e10 (hρ.cst _)) ?_
        refine (putWord1 _ _ (by omega) (by omega)).mono ?_
        rintro e wy ⟨rfl, hb11⟩
        exact ⟨_, rfl, hK _ _ hb11 rfl⟩
      · intro xv_ wx ρ hρ hwx hd K hK
        obtain r2 : xv_ 2 = .string ⟨(pw1 x.f0).toArray⟩ := hd 2 rfl
        have e8 : ρ (.tmp 8) = .string ⟨(pw1 x.f0).toArray⟩ := (hρ.out 2 8 rfl (by rw [hs.size]; decide) rfl).trans r2
        obtain r5 : xv_ 5 = .string ⟨(pw1 x.f1).toArray⟩ := hd 5 rfl
        have e11 : ρ (.tmp 11) = .string ⟨(pw1 x.f1).toArray⟩ := (hρ.out 5 11 rfl (by rw [hs.size]; decide) rfl).trans r5
        refine g_concat rfl e8 e11 (by simp only [List.length_append, pw1_len, pw2_len, pw3_len]; omega) ?_
        exact hK _ _ (Below.refl _ _) rfl
      · intro xv_ wx ρ hρ hwx hd K hK
        have e1 : ρ (.tmp 1) = .pointer (some ⟨q2, 0, none⟩) := (hρ.inn 1 rfl).trans s1
        refine g_field (r := 2) rfl e1 Try.underlying40 rfl (fun w => Try.sizeOf3 w) rfl rfl ?_
        exact hK _ _ (Below.refl _ _) rfl
      · intro xv_ wx ρ hρ hwx hd K hK
        obtain r7 : xv_ 7 = .pointer (some ⟨q2, 2, none⟩) := hd 7 rfl
        have e13 : ρ (.tmp 13) = .pointer (some ⟨q2, 2, none⟩) := (hρ.out 7 13 rfl (by rw [hs.size]; decide) rfl).trans r7
        have h_q2 := keep_below h_q2 hwx
        refine g_load rfl e13 Try.isAgg3 (box_cell h_q2 rfl) ?_
        exact hK _ _ (Below.refl _ _) rfl
      · intro xv_ wx ρ hρ hwx hd K hK
        obtain r8 : xv_ 8 = .int .i64 x.f2 := hd 8 rfl
        have e14 : ρ (.tmp 14) = .int .i64 x.f2 := (hρ.out 8 14 rfl (by rw [hs.size]; decide) rfl).trans r8
        refine g_call rfl (hρ.fn _) Try.call47 (arr2 e14 (hρ.cst _)) ?_
        refine (putWord1 _ _ (by omega) (by omega)).mono ?_
        rintro e wy ⟨rfl, hb12⟩
        exact ⟨_, rfl, hK _ _ hb12 rfl⟩
      · intro xv_ wx ρ hρ hwx hd K hK
        obtain r6 : xv_ 6 = .string ⟨((pw1 x.f0) ++ (pw1 x.f1)).toArray⟩ := hd 6 rfl
        have e12 : ρ (.tmp 12) = .string ⟨((pw1 x.f0) ++ (pw1 x.f1)).toArray⟩ := (hρ.out 6 12 rfl (by rw [hs.size]; decide) rfl).trans r6
        obtain r9 : xv_ 9 = .string ⟨(pw1 x.f2).toArray⟩ := hd 9 rfl
        have e15 : ρ (.tmp 15) = .string ⟨(pw1 x.f2).toArray⟩ := (hρ.out 9 15 rfl (by rw [hs.size]; decide) rfl).trans r9
        refine g_concat rfl e12 e15 (by simp only [List.length_append, pw1_len, pw2_len, pw3_len]; omega) ?_
        exact hK _ _ (Below.refl _ _) rfl
      · intro xv_ wx ρ hρ hwx hd K hK
        have e1 : ρ (.tmp 1) = .pointer (some ⟨q2, 0, none⟩) := (hρ.inn 1 rfl).trans s1
        refine g_field (r := 3) rfl e1 Try.underlying40 rfl (fun w => Try.sizeOf9 w) rfl rfl ?_
        exact hK _ _ (Below.refl _ _) rfl
      · intro xv_ wx ρ hρ hwx hd K hK
        obtain r11 : xv_ 11 = .pointer (some ⟨q2, 3, none⟩) := hd 11 rfl
        have e17 : ρ (.tmp 17) = .pointer (some ⟨q2, 3, none⟩) := (hρ.out 11 17 rfl (by rw [hs.size]; decide) rfl).trans r11
        have h_q2 := keep_below h_q2 hwx
        refine g_load rfl e17 Try.isAgg9 (box_cell h_q2 rfl) ?_
        exact hK _ _ (Below.refl _ _) rfl
      · intro xv_ wx ρ hρ hwx hd K hK
        obtain r10 : xv_ 10 = .string ⟨(((pw1 x.f0) ++ (pw1 x.f1)) ++ (pw1 x.f2)).toArray⟩ := hd 10 rfl
        have e16 : ρ (.tmp 16) = .string ⟨(((pw1 x.f0) ++ (pw1 x.f1)) ++ (pw1 x.f2)).toArray⟩ := (hρ.out 10 16 rfl (by rw [hs.size]; decide) rfl).trans r10
        obtain r12 : xv_ 12 = .string ⟨(x.f3).toArray⟩ := hd 12 rfl
        have e18 : ρ (.tmp 18) = .string ⟨(x.f3).toArray⟩ := (hρ.out 12 18 rfl (by rw [hs.size]; decide) rfl).trans r12
        refine g_concat rfl e16 e18 (by simp only [List.length_append, pw1_len, pw2_len, pw3_len]; omega) ?_
        exact hK _ _ (Below.refl _ _) rfl
      · intro xv_ wx ρ hρ hwx hd K hK
        obtain r13 : xv_ 13 = .string ⟨((((pw1 x.f0) ++ (pw1 x.f1)) ++ (pw1 x.f2)) ++ x.f3).toArray⟩ := hd 13 rfl
        have e19 : ρ (.tmp 19) = .string ⟨((((pw1 x.f0) ++ (pw1 x.f1)) ++ (pw1 x.f2)) ++ x.f3).toArray⟩ := (hρ.out 13 19 rfl (by rw [hs.size]; decide) rfl).trans r13
        refine g_call rfl (hρ.fn _) Try.call49 (arr1 e19) ?_
        refine (sealText_any ((((pw1 x.f0) ++ (pw1 x.f1)) ++ (pw1 x.f2)) ++ x.f3) _ (by simp only [List.length_append, pw1_len, pw2_len, pw3_len]; omega)).mono ?_
        rintro e wy ⟨rfl, hb13⟩
        exact ⟨_, rfl, hK _ _ hb13 rfl⟩
      · intro xv_ wx ρ hρ hwx hd K hK
        obtain r14 : xv_ 14 = .string ⟨(sealT ((((pw1 x.f0) ++ (pw1 x.f1)) ++ (pw1 x.f2)) ++ x.f3)).toArray⟩ := hd 14 rfl
        have e20 : ρ (.tmp 20) = .string ⟨(sealT ((((pw1 x.f0) ++ (pw1 x.f1)) ++ (pw1 x.f2)) ++ x.f3)).toArray⟩ := (hρ.out 14 20 rfl (by rw [hs.size]; decide) rfl).trans r14
        refine g_assign rfl e20 ?_
        exact hK _ _ (Below.refl _ _) rfl
    · intro x0_ w14 hb_w14 hr0
      obtain r0 : x0_ 0 = .pointer (some ⟨q2, 0, none⟩) := hr0 0 (by decide) rfl rfl
      obtain r1 : x0_ 1 = .int .i64 x.f0 := hr0 1 (by decide) rfl rfl
      obtain r2 : x0_ 2 = .string ⟨(pw1 x.f0).toArray⟩ := hr0 2 (by decide) rfl rfl
      obtain r3 : x0_ 3 = .pointer (some ⟨q2, 1, none⟩) := hr0 3 (by decide) rfl rfl
      obtain r4 : x0_ 4 = .int .i64 x.f1 := hr0 4 (by decide) rfl rfl
      obtain r5 : x0_ 5 = .string ⟨(pw1 x.f1).toArray⟩ := hr0 5 (by decide) rfl rfl
      obtain r6 : x0_ 6 = .string ⟨((pw1 x.f0) ++ (pw1 x.f1)).toArray⟩ := hr0 6 (by decide) rfl rfl
      obtain r7 : x0_ 7 = .pointer (some ⟨q2, 2, none⟩) := hr0 7 (by decide) rfl rfl
      obtain r8 : x0_ 8 = .int .i64 x.f2 := hr0 8 (by decide) rfl rfl
      obtain r9 : x0_ 9 = .string ⟨(pw1 x.f2).toArray⟩ := hr0 9 (by decide) rfl rfl
      obtain r10 : x0_ 10 = .string ⟨(((pw1 x.f0) ++ (pw1 x.f1)) ++ (pw1 x.f2)).toArray⟩ := hr0 10 (by decide) rfl rfl
      obtain r11 : x0_ 11 = .pointer (some ⟨q2, 3, none⟩) := hr0 11 (by decide) rfl rfl
      obtain r12 : x0_ 12 = .string ⟨(x.f3).toArray⟩ := hr0 12 (by decide) rfl rfl
      obtain r13 : x0_ 13 = .string ⟨((((pw1 x.f0) ++ (pw1 x.f1)) ++ (pw1 x.f2)) ++ x.f3).toArray⟩ := hr0 13 (by decide) rfl rfl
      obtain r14 : x0_ 14 = .string ⟨(sealT ((((pw1 x.f0) ++ (pw1 x.f1)) ++ (pw1 x.f2)) ++ x.f3)).toArray⟩ := hr0 14 (by decide) rfl rfl
      obtain r15 : x0_ 15 = .string ⟨(sealT ((((pw1 x.f0) ++ (pw1 x.f1)) ++ (pw1 x.f2)) ++ x.f3)).toArray⟩ := hr0 15 (by decide) rfl rfl
      clear hr0
      replace h_q2 := keep_below h_q2 hb_w14
      replace hB := hB.trans (hb_w14.mono hB.size)
      clear hb_w14
      intro xv_ a6 hρ hsz hdf qx_ ql_ qk_ qlk_
      have s2 : a6.eval (.tmp 2) = .string ⟨(sealT ((((pw1 x.f0) ++ (pw1 x.f1)) ++ (pw1 x.f2)) ++ x.f3)).toArray⟩ := (hρ.out 15 2 rfl (by rw [hs.size]; decide)).trans ((qx_ 15 (by decide) rfl rfl).trans r15)
      replace hs : St 21 a6 := ⟨hsz.trans hs.size, hdf.trans hs.nodef⟩
      clear hρ hsz hdf qx_ ql_ qk_ qlk_
      refine hK9 _ _ ?_
      clear hK9
      refine wp_ret ?_
      try dsimp only [Exit.then, Exit.inBlock]
      refine ret1 hs Try.results27 (res_tmp s2) ?_
      rw [encF_yes h1]
      exact ⟨rfl, hB⟩
set_option maxRecDepth 100000 in
set_option maxHeartbeats 4000000 in
theorem decodeFrame_any (s : List UInt8) (w : World) (hs' : Txt s) :
    Calls Try.prog 28 #[.string ⟨s.toArray⟩] w fun e w' => e = .returned (.tuple #[.agg #[.int .i64 (dfX s).f0, .int .i64 (dfX s).f1, .int .i64 (dfX s).f2, .string ⟨((dfX s).f3).toArray⟩], .bool (dfO s)]) ∧ Below w.heap.size w w' := by
  have hs'' := hs'
  unfold Txt at hs''
  have hol : (opT s).length ≤ s.length := by
    unfold opT
    split
    · rw [List.length_take]; omega
    · simp
  refine enter 37 Try.func28 rfl rfl (Nat.le_of_ble_eq_true rfl) ?_
  intro a0 hs hargs
  have s0 : a0.eval (.tmp 0) = .string ⟨(s).toArray⟩ := hargs 0 _ rfl
  clear hargs
  have hB : Below w.heap.size w w := Below.refl _ _
  refine wp_seq_k fun K1 hK1 => ?_
  refine wp_region_lit ?_
  refine q_val rfl rfl ?_
  refine g_alloc rfl Try.zeroValue40 rfl ?_
  intro q2 w3 N_q2
  have g_q2 : GeB w.heap.size q2 := ⟨Nat.le_trans hB.size N_q2.lo⟩
  replace hB := below_new hB hB.size N_q2
  have h_q2 := N_q2.here
  clear N_q2
  intro a1 p1
  have s2 : a1.eval (.tmp 2) = .pointer (some ⟨q2, 0, none⟩) := p1.at hs (by decide)
  replace hs := p1.st hs
  refine q_val rfl rfl ?_
  refine g_assign rfl rfl ?_
  intro a2 p2
  have s3 : a2.eval (.tmp 3) = .bool false := p2.at hs (by decide)
  replace hs := p2.st hs
  refine wpList_nil ?_
  replace s0 : a2.eval (.tmp 0) = .string ⟨(s).toArray⟩ := ((p2.ne rfl).trans (p1.ne rfl)).trans s0
  replace s2 : a2.eval (.tmp 2) = .pointer (some ⟨q2, 0, none⟩) := (p2.ne rfl).trans s2
  refine hK1 _ _ ?_
  clear hK1
  refine wp_seq_k fun K4 hK4 => ?_
  refine wp_region_lit ?_
  refine q_val rfl rfl ?_
  refine g_move rfl s0 ?_
  intro a3 p3
  have s8 : a3.eval (.tmp 8) = .string ⟨(s).toArray⟩ := p3.at hs (by decide)
  replace hs := p3.st hs
  refine q_val rfl rfl ?_
  refine g_call rfl rfl Try.call50 (arr1 s8) ?_
  refine (openText_any s _ hs').mono ?_
  rintro e w6 ⟨rfl, hb5⟩
  refine ⟨_, rfl, ?_⟩
  replace h_q2 := keep_below h_q2 hb5
  replace hB := hB.trans (hb5.mono hB.size)
  clear hb5
  intro a4 p4
  have s9 : a4.eval (.tmp 9) = .tuple #[.string ⟨(opT s).toArray⟩, .bool (opOk s)] := p4.at hs (by decide)
  replace hs := p4.st hs
  refine q_val rfl rfl ?_
  refine g_move rfl s9 ?_
  intro a5 p5
  have s7 : a5.eval (.tmp 7) = .tuple #[.string ⟨(opT s).toArray⟩, .bool (opOk s)] := p5.at hs (by decide)
  replace hs := p5.st hs
  refine q_val rfl rfl ?_
  refine g_extract rfl s7 rfl ?_
  intro a6 p6
  have s10 : a6.eval (.tmp 10) = .string ⟨(opT s).toArray⟩ := p6.at hs (by decide)
  replace hs := p6.st hs
  refine q_val rfl rfl ?_
  refine g_extract rfl ((p6.ne rfl).trans s7) rfl ?_
  intro a7 p7
  have s11 : a7.eval (.tmp 11) = .bool (opOk s) := p7.at hs (by decide)
  replace hs := p7.st hs
  refine q_val rfl rfl ?_
  refine g_assign rfl ((p7.ne rfl).trans s10) ?_
  intro a8 p8
  have s4 : a8.eval (.tmp 4) = .string ⟨(opT s).toArray⟩ := p8.at hs (by decide)
  replace hs := p8.st hs
  refine q_val rfl rfl ?_
  refine g_assign rfl ((p8.ne rfl).trans s11) ?_
  intro a9 p9
  have s5 : a9.eval (.tmp 5) = .bool (opOk s) := p9.at hs (by decide)
  replace hs := p9.st hs
  refine wpList_nil ?_
  replace s2 : a9.eval (.tmp 2) = .pointer (some ⟨q2, 0, none⟩) := ((p9.ne rfl).trans ((p8.ne rfl).trans ((p7.ne rfl).trans ((p6.ne rfl).trans ((p5.ne rfl).trans ((p4.ne rfl).trans (p3.ne rfl))))))).trans s2
  replace s3 : a9.eval (.tmp 3) = .bool false := ((p9.ne rfl).trans ((p8.ne rfl).trans ((p7.ne rfl).trans ((p6.ne rfl).trans ((p5.ne rfl).trans ((p4.ne rfl).trans (p3.ne rfl))))))).trans s3
  replace s4 : a9.eval (.tmp 4) = .string ⟨(opT s).toArray⟩ := (p9.ne rfl).trans s4
  refine hK4 _ _ ?_
  clear hK4
  refine wp_seq_k fun K7 hK7 => ?_
  refine wp_seq_k fun K8 hK8 => ?_
  refine wp_region_lit ?_
  refine q_val rfl rfl ?_
  refine g_move rfl s5 ?_
  intro a10 p10
  have s12 : a10.eval (.tmp 12) = .bool (opOk s) := p10.at hs (by decide)
  replace hs := p10.st hs
  refine q_val rfl rfl ?_
  refine g_not rfl s12 ?_
  intro a11 p11
  have s13 : a11.eval (.tmp 13) = .bool (!(opOk s)) := p11.at hs (by decide)
  replace hs := p11.st hs
  refine q_val rfl rfl ?_
  refine g_move rfl s13 ?_
  intro a12 p12
  have s14 : a12.eval (.tmp 14) = .bool (!(opOk s)) := p12.at hs (by decide)
  replace hs := p12.st hs
  cases h1 : opOk s
  · replace s5 := s5.trans (congrArg Value.bool h1)
    replace s5 : a9.eval (.tmp 5) = .bool false := s5
    replace s12 := s12.trans (congrArg Value.bool h1)
    replace s12 : a10.eval (.tmp 12) = .bool false := s12
    replace s13 := s13.trans (congrArg (fun b => Value.bool (!b)) h1)
    replace s13 : a11.eval (.tmp 13) = .bool true := s13
    replace s14 := s14.trans (congrArg (fun b => Value.bool (!b)) h1)
    replace s14 : a12.eval (.tmp 14) = .bool true := s14
    refine q_skip rfl rfl s14 rfl ?_
    intro a13 p13
    have s15 : a13.eval (.tmp 15) = undef := p13.at hs (by decide)
    replace hs := p13.st hs
    refine q_skip rfl rfl ((p13.ne rfl).trans s14) rfl ?_
    intro a14 p14
    have s16 : a14.eval (.tmp 16) = undef := p14.at hs (by decide)
    replace hs := p14.st hs
    refine q_skip rfl rfl (((p14.ne rfl).trans (p13.ne rfl)).trans s14) rfl ?_
    intro a15 p15
    have s17 : a15.eval (.tmp 17) = undef := p15.at hs (by decide)
    replace hs := p15.st hs
    refine q_val rfl rfl ?_
    refine g_pick_t rfl (((p15.ne rfl).trans ((p14.ne rfl).trans (p13.ne rfl))).trans s14) rfl ?_
    intro a16 p16
    have s18 : a16.eval (.tmp 18) = .bool true := p16.at hs (by decide)
    replace hs := p16.st hs
    refine wpList_nil ?_
    replace s2 : a16.eval (.tmp 2) = .pointer (some ⟨q2, 0, none⟩) := ((p16.ne rfl).trans ((p15.ne rfl).trans ((p14.ne rfl).trans ((p13.ne rfl).trans ((p12.ne rfl).trans ((p11.ne rfl).trans (p10.ne rfl))))))).trans s2
    replace s3 : a16.eval (.tmp 3) = .bool false := ((p16.ne rfl).trans ((p15.ne rfl).trans ((p14.ne rfl).trans ((p13.ne rfl).trans ((p12.ne rfl).trans ((p11.ne rfl).trans (p10.ne rfl))))))).trans s3
    replace s4 : a16.eval (.tmp 4) = .string ⟨(opT s).toArray⟩ := ((p16.ne rfl).trans ((p15.ne rfl).trans ((p14.ne rfl).trans ((p13.ne rfl).trans ((p12.ne rfl).trans ((p11.ne rfl).trans (p10.ne rfl))))))).trans s4
    refine hK8 _ _ ?_
    clear hK8
    refine c_true s18 ?_
    refine wp_seq_k fun K9 hK9 => ?_
    refine wp_region_lit ?_
    refine q_val rfl rfl ?_
    refine g_build (cells := #[.int .i64 0, .int .i64 0, .int .i64 0, .string ⟨#[]⟩]) rfl (arrB0 ) (by kernel_rfl) ?_
    intro a17 p17
    have s19 : a17.eval (.tmp 19) = .agg #[.int .i64 0, .int .i64 0, .int .i64 0, .string ⟨#[]⟩] := p17.at hs (by decide)
    replace hs := p17.st hs
    refine q_eff rfl rfl ?_
    refine g_storeB rfl ((p17.ne rfl).trans s2) s19 Try.sizeOf40 rfl rfl h_q2 rfl ?_
    intro w10 W_w10
    replace h_q2 := W_w10.here
    replace hB := below_wrote hB hB.size W_w10 g_q2.le
    clear W_w10
    refine q_val rfl rfl ?_
    refine g_assign rfl rfl ?_
    intro a18 p18
    have s3 : a18.eval (.tmp 3) = .bool false := p18.at hs (by decide)
    replace hs := p18.st hs
    refine wpList_nil ?_
    replace s2 : a18.eval (.tmp 2) = .pointer (some ⟨q2, 0, none⟩) := ((p18.ne rfl).trans (p17.ne rfl)).trans s2
    replace s4 : a18.eval (.tmp 4) = .string ⟨(opT s).toArray⟩ := ((p18.ne rfl).trans (p17.ne rfl)).trans s4
    refine hK9 _ _ ?_
    clear hK9
    refine wp_ret ?_
    try dsimp only [Exit.then, Exit.inBlock]
    refine ret2 hs Try.results28 (res_cell s2 h_q2 Try.isAgg40 Try.sizeOf40 rfl) (res_tmp s3) ?_
    have e : dfO s = false := by unfold dfO; simp [h1]
    rw [e, df_no e]
    exact ⟨rfl, hB⟩
  · replace s5 := s5.trans (congrArg Value.bool h1)
    replace s5 : a9.eval (.tmp 5) = .bool true := s5
    replace s12 := s12.trans (congrArg Value.bool h1)
    replace s12 : a10.eval (.tmp 12) = .bool true := s12
    replace s13 := s13.trans (congrArg (fun b => Value.bool (!b)) h1)
    replace s13 : a11.eval (.tmp 13) = .bool false := s13
    replace s14 := s14.trans (congrArg (fun b => Value.bool (!b)) h1)
    replace s14 : a12.eval (.tmp 14) = .bool false := s14
    refine q_take rfl rfl s14 rfl ?_
    refine g_move rfl (((p12.ne rfl).trans ((p11.ne rfl).trans (p10.ne rfl))).trans s4) ?_
    intro a13 p13
    have s15 : a13.eval (.tmp 15) = .string ⟨(opT s).toArray⟩ := p13.at hs (by decide)
    replace hs := p13.st hs
    refine q_take rfl rfl ((p13.ne rfl).trans s14) rfl ?_
    refine g_lenS rfl Try.underlying9 s15 ?_
    intro a14 p14
    have s16 : a14.eval (.tmp 16) = .int .i64 (((opT s).length : Nat) : Int) := p14.at hs (by decide)
    replace hs := p14.st hs
    refine q_take rfl rfl (((p14.ne rfl).trans (p13.ne rfl)).trans s14) rfl ?_
    refine g_neq rfl s16 rfl ?_
    intro a15 p15
    have s17 : a15.eval (.tmp 17) = .bool (!decide ((((opT s).length : Nat) : Int) = 27)) := p15.at hs (by decide)
    replace hs := p15.st hs
    refine q_val rfl rfl ?_
    refine g_pick_f rfl (((p15.ne rfl).trans ((p14.ne rfl).trans (p13.ne rfl))).trans s14) s17 ?_
    intro a16 p16
    have s18 : a16.eval (.tmp 18) = .bool (!decide ((((opT s).length : Nat) : Int) = 27)) := p16.at hs (by decide)
    replace hs := p16.st hs
    refine wpList_nil ?_
    replace s2 : a16.eval (.tmp 2) = .pointer (some ⟨q2, 0, none⟩) := ((p16.ne rfl).trans ((p15.ne rfl).trans ((p14.ne rfl).trans ((p13.ne rfl).trans ((p12.ne rfl).trans ((p11.ne rfl).trans (p10.ne rfl))))))).trans s2
    replace s3 : a16.eval (.tmp 3) = .bool false := ((p16.ne rfl).trans ((p15.ne rfl).trans ((p14.ne rfl).trans ((p13.ne rfl).trans ((p12.ne rfl).trans ((p11.ne rfl).trans (p10.ne rfl))))))).trans s3
    replace s4 : a16.eval (.tmp 4) = .string ⟨(opT s).toArray⟩ := ((p16.ne rfl).trans ((p15.ne rfl).trans ((p14.ne rfl).trans ((p13.ne rfl).trans ((p12.ne rfl).trans ((p11.ne rfl).trans (p10.ne rfl))))))).trans s4
    refine hK8 _ _ ?_
    clear hK8
    by_cases h2 : (((opT s).length : Nat) : Int) = 27
    · replace s18 := s18.trans (congrArg (fun b => Value.bool (!b)) (decide_eq_true h2))
      replace s18 : a16.eval (.tmp 18) = .bool false := s18
      refine c_false s18 ?_
      refine wp_skip ?_
      refine hK7 _ _ ?_
      clear hK7
      refine wp_seq_k fun K11 hK11 => ?_
      refine wp_drawn (n := 37) [] [13] [] (fun k_ v_ wx => match k_ with | 0 => v_ = .string ⟨(opT s).toArray⟩ | 1 => v_ = .int .u8 (nth (opT s) ((0 : Nat) : Int)) | 2 => v_ = .int .i64 (nth (opT s) ((0 : Nat) : Int)) | 3 => v_ = .string ⟨(opT s).toArray⟩ | 4 => v_ = .int .u8 (nth (opT s) ((1 : Nat) : Int)) | 5 => v_ = .int .i64 (nth (opT s) ((1 : Nat) : Int)) | 6 => v_ = .string ⟨(opT s).toArray⟩ | 7 => v_ = .int .u8 (nth (opT s) ((2 : Nat) : Int)) | 8 => v_ = .int .i64 (nth (opT s) ((2 : Nat) : Int)) | 9 => v_ = .string ⟨(opT s).toArray⟩ | 10 => v_ = .string ⟨((opT s).drop 3).toArray⟩ | 11 => v_ = .agg #[.int .i64 (nth (opT s) ((0 : Nat) : Int)), .int .i64 (nth (opT s) ((1 : Nat) : Int)), .int .i64 (nth (opT s) ((2 : Nat) : Int)), .string ⟨((opT s).drop 3).toArray⟩] | 12 => ∃ q12, v_ = .pointer (some ⟨q12, 0, none⟩) ∧ w6.heap.size ≤ q12 ∧ wx.heap[q12]? = some (.cells #[.int .i64 0, .int .i64 0, .int .i64 0, .string ⟨#[]⟩] 40 (0, 0)) | _ => True) (by kernel_rfl) (by kernel_rfl) (by kernel_rfl) (by kernel_rfl) hs.size ?_ ?_ ?_
      · intro i v wa wb hb hr
        rcases i with _ | _ | _ | _ | _ | _ | _ | _ | _ | _ | _ | _ | _ | _ | i
        · exact hr
        · exact hr
        · exact hr
        · exact hr
        · exact hr
        · exact hr
        · exact hr
        · exact hr
        · exact hr
        · exact hr
        · exact hr
        · exact hr
        · obtain ⟨q12, hr, hg, hh⟩ := hr; exact ⟨q12, hr, hg, keep_below hh hb⟩
        · trivial
        · trivial
      · refine d_step rfl rfl ?_ (d_step rfl rfl ?_ (d_step rfl rfl ?_ (d_step rfl rfl ?_ (d_step rfl rfl ?_ (d_step rfl rfl ?_ (d_step rfl rfl ?_ (d_step rfl rfl ?_ (d_step rfl rfl ?_ (d_step rfl rfl ?_ (d_step rfl rfl ?_ (d_step rfl rfl ?_ (d_step rfl rfl ?_ (d_chain rfl (d_nil))))))))))))))
        · intro xv_ wx ρ hρ hwx hd K hK
          have e4 : ρ (.tmp 4) = .string ⟨(opT s).toArray⟩ := (hρ.inn 4 rfl).trans s4
          refine g_move rfl e4 ?_
          exact hK _ _ (Below.refl _ _) rfl
        · intro xv_ wx ρ hρ hwx hd K hK
          obtain r0 : xv_ 0 = .string ⟨(opT s).toArray⟩ := hd 0 rfl
          have e20 : ρ (.tmp 20) = .string ⟨(opT s).toArray⟩ := (hρ.out 0 20 rfl (by rw [hs.size]; decide) rfl).trans r0
          refine g_indexS (k := 0) rfl e20 ((hρ.cst _)) rfl Try.underlying9 (by omega) ?_
          exact hK _ _ (Below.refl _ _) rfl
        · intro xv_ wx ρ hρ hwx hd K hK
          obtain r1 : xv_ 1 = .int .u8 (nth (opT s) ((0 : Nat) : Int)) := hd 1 rfl
          have e21 : ρ (.tmp 21) = .int .u8 (nth (opT s) ((0 : Nat) : Int)) := (hρ.out 1 21 rfl (by rw [hs.size]; decide) rfl).trans r1
          refine g_convB rfl Try.underlying5 Try.underlying3 e21 ?_
          exact hK _ _ (Below.refl _ _) rfl
        · intro xv_ wx ρ hρ hwx hd K hK
          have e4 : ρ (.tmp 4) = .string ⟨(opT s).toArray⟩ := (hρ.inn 4 rfl).trans s4
          refine g_move rfl e4 ?_
          exact hK _ _ (Below.refl _ _) rfl
        · intro xv_ wx ρ hρ hwx hd K hK
          obtain r3 : xv_ 3 = .string ⟨(opT s).toArray⟩ := hd 3 rfl
          have e23 : ρ (.tmp 23) = .string ⟨(opT s).toArray⟩ := (hρ.out 3 23 rfl (by rw [hs.size]; decide) rfl).trans r3
          refine g_indexS (k := 1) rfl e23 ((hρ.cst _)) rfl Try.underlying9 (by omega) ?_
          exact hK _ _ (Below.refl _ _) rfl
        · intro xv_ wx ρ hρ hwx hd K hK
          obtain r4 : xv_ 4 = .int .u8 (nth (opT s) ((1 : Nat) : Int)) := hd 4 rfl
          have e24 : ρ (.tmp 24) = .int .u8 (nth (opT s) ((1 : Nat) : Int)) := (hρ.out 4 24 rfl (by rw [hs.size]; decide) rfl).trans r4
          refine g_convB rfl Try.underlying5 Try.underlying3 e24 ?_
          exact hK _ _ (Below.refl _ _) rfl
        · intro xv_ wx ρ hρ hwx hd K hK
          have e4 : ρ (.tmp 4) = .string ⟨(opT s).toArray⟩ := (hρ.inn 4 rfl).trans s4
          refine g_move rfl e4 ?_
          exact hK _ _ (Below.refl _ _) rfl
        · intro xv_ wx ρ hρ hwx hd K hK
          obtain r6 : xv_ 6 = .string ⟨(opT s).toArray⟩ := hd 6 rfl
          have e26 : ρ (.tmp 26) = .string ⟨(opT s).toArray⟩ := (hρ.out 6 26 rfl (by rw [hs.size]; decide) rfl).trans r6
          refine g_indexS (k := 2) rfl e26 ((hρ.cst _)) rfl Try.underlying9 (by omega) ?_
          exact hK _ _ (Below.refl _ _) rfl
        · intro xv_ wx ρ hρ hwx hd K hK
          obtain r7 : xv_ 7 = .int .u8 (nth (opT s) ((2 : Nat) : Int)) := hd 7 rfl
          have e27 : ρ (.tmp 27) = .int .u8 (nth (opT s) ((2 : Nat) : Int)) := (hρ.out 7 27 rfl (by rw [hs.size]; decide) rfl).trans r7
          refine g_convB rfl Try.underlying5 Try.underlying3 e27 ?_
          exact hK _ _ (Below.refl _ _) rfl
        · intro xv_ wx ρ hρ hwx hd K hK
          have e4 : ρ (.tmp 4) = .string ⟨(opT s).toArray⟩ := (hρ.inn 4 rfl).trans s4
          refine g_move rfl e4 ?_
          exact hK _ _ (Below.refl _ _) rfl
        · intro xv_ wx ρ hρ hwx hd K hK
          obtain r9 : xv_ 9 = .string ⟨(opT s).toArray⟩ := hd 9 rfl
          have e29 : ρ (.tmp 29) = .string ⟨(opT s).toArray⟩ := (hρ.out 9 29 rfl (by rw [hs.size]; decide) rfl).trans r9
          refine g_tailS (k := 3) rfl e29 ((hρ.cst _)) rfl Try.underlying9 (by omega) ?_
          exact hK _ _ (Below.refl _ _) rfl
        · intro xv_ wx ρ hρ hwx hd K hK
          obtain r2 : xv_ 2 = .int .i64 (nth (opT s) ((0 : Nat) : Int)) := hd 2 rfl
          have e22 : ρ (.tmp 22) = .int .i64 (nth (opT s) ((0 : Nat) : Int)) := (hρ.out 2 22 rfl (by rw [hs.size]; decide) rfl).trans r2
          obtain r5 : xv_ 5 = .int .i64 (nth (opT s) ((1 : Nat) : Int)) := hd 5 rfl
          have e25 : ρ (.tmp 25) = .int .i64 (nth (opT s) ((1 : Nat) : Int)) := (hρ.out 5 25 rfl (by rw [hs.size]; decide) rfl).trans r5
          obtain r8 : xv_ 8 = .int .i64 (nth (opT s) ((2 : Nat) : Int)) := hd 8 rfl
          have e28 : ρ (.tmp 28) = .int .i64 (nth (opT s) ((2 : Nat) : Int)) := (hρ.out 8 28 rfl (by rw [hs.size]; decide) rfl).trans r8
          obtain r10 : xv_ 10 = .string ⟨((opT s).drop 3).toArray⟩ := hd 10 rfl
          have e30 : ρ (.tmp 30) = .string ⟨((opT s).drop 3).toArray⟩ := (hρ.out 10 30 rfl (by rw [hs.size]; decide) rfl).trans r10
          refine g_build (cells := #[.int .i64 (nth (opT s) ((0 : Nat) : Int)), .int .i64 (nth (opT s) ((1 : Nat) : Int)), .int .i64 (nth (opT s) ((2 : Nat) : Int)), .string ⟨((opT s).drop 3).toArray⟩]) rfl (arrB4 e22 e25 e28 e30) (by kernel_rfl) ?_
          exact hK _ _ (Below.refl _ _) rfl
        · intro xv_ wx ρ hρ hwx hd K hK
          refine g_alloc rfl Try.zeroValue40 rfl ?_
          intro q w' N
          exact hK _ _ N.below ⟨q, rfl, Nat.le_trans hwx.size N.lo, N.here⟩
      · intro x0_ w13 hb_w13 hr0
        obtain r0 : x0_ 0 = .string ⟨(opT s).toArray⟩ := hr0 0 (by decide) rfl rfl
        obtain r1 : x0_ 1 = .int .u8 (nth (opT s) ((0 : Nat) : Int)) := hr0 1 (by decide) rfl rfl
        obtain r2 : x0_ 2 = .int .i64 (nth (opT s) ((0 : Nat) : Int)) := hr0 2 (by decide) rfl rfl
        obtain r3 : x0_ 3 = .string ⟨(opT s).toArray⟩ := hr0 3 (by decide) rfl rfl
        obtain r4 : x0_ 4 = .int .u8 (nth (opT s) ((1 : Nat) : Int)) := hr0 4 (by decide) rfl rfl
        obtain r5 : x0_ 5 = .int .i64 (nth (opT s) ((1 : Nat) : Int)) := hr0 5 (by decide) rfl rfl
        obtain r6 : x0_ 6 = .string ⟨(opT s).toArray⟩ := hr0 6 (by decide) rfl rfl
        obtain r7 : x0_ 7 = .int .u8 (nth (opT s) ((2 : Nat) : Int)) := hr0 7 (by decide) rfl rfl
        obtain r8 : x0_ 8 = .int .i64 (nth (opT s) ((2 : Nat) : Int)) := hr0 8 (by decide) rfl rfl
        obtain r9 : x0_ 9 = .string ⟨(opT s).toArray⟩ := hr0 9 (by decide) rfl rfl
        obtain r10 : x0_ 10 = .string ⟨((opT s).drop 3).toArray⟩ := hr0 10 (by decide) rfl rfl
        obtain r11 : x0_ 11 = .agg #[.int .i64 (nth (opT s) ((0 : Nat) : Int)), .int .i64 (nth (opT s) ((1 : Nat) : Int)), .int .i64 (nth (opT s) ((2 : Nat) : Int)), .string ⟨((opT s).drop 3).toArray⟩] := hr0 11 (by decide) rfl rfl
        obtain ⟨q12, r12, g0_q12, h_q12⟩ : ∃ q12, x0_ 12 = .pointer (some ⟨q12, 0, none⟩) ∧ w6.heap.size ≤ q12 ∧ w13.heap[q12]? = some (.cells #[.int .i64 0, .int .i64 0, .int .i64 0, .string ⟨#[]⟩] 40 (0, 0)) := hr0 12 (by decide) rfl rfl
        clear hr0
        have n_q2_q12 : NeB q2 q12 := ⟨fun e => by have := lt_of_block h_q2; omega⟩
        have n_q12_q2 := n_q2_q12.symm
        have g_q12 : GeB w.heap.size q12 := ⟨Nat.le_trans hB.size g0_q12⟩
        clear g0_q12
        replace h_q2 := keep_below h_q2 hb_w13
        replace hB := hB.trans (hb_w13.mono hB.size)
        clear hb_w13
        intro op_ ho_ xv_ ρ hρ qx_ ql_ qk_
        obtain rfl := Option.some.inj ho_
        clear ho_
        have e6 : ρ (.tmp 6) = .pointer (some ⟨q12, 0, none⟩) := (hρ.out 12 6 rfl (by rw [hs.size]; decide) rfl).trans ((qx_ 12 (by decide) rfl rfl).trans r12)
        have e31 : ρ (.tmp 31) = .agg #[.int .i64 (nth (opT s) ((0 : Nat) : Int)), .int .i64 (nth (opT s) ((1 : Nat) : Int)), .int .i64 (nth (opT s) ((2 : Nat) : Int)), .string ⟨((opT s).drop 3).toArray⟩] := (hρ.out 11 31 rfl (by rw [hs.size]; decide) rfl).trans ((qx_ 11 (by decide) rfl rfl).trans r11)
        refine g_storeB rfl e6 e31 Try.sizeOf40 rfl rfl h_q12 rfl ?_
        intro w14 W_w14
        replace h_q2 := keep_wrote h_q2 W_w14 n_q12_q2
        replace h_q12 := W_w14.here
        replace hB := below_wrote hB hB.size W_w14 g_q12.le
        clear W_w14
        clear e31 e6
        clear hρ qx_ ql_ qk_
        intro xv_ a17 hρ hsz hdf qx_ ql_ qk_ qlk_
        replace s2 : a17.eval (.tmp 2) = .pointer (some ⟨q2, 0, none⟩) := (hρ.inn 2 rfl).trans s2
        replace s3 : a17.eval (.tmp 3) = .bool false := (hρ.inn 3 rfl).trans s3
        have s6 : a17.eval (.tmp 6) = .pointer (some ⟨q12, 0, none⟩) := (hρ.out 12 6 rfl (by rw [hs.size]; decide)).trans ((qx_ 12 (by decide) rfl rfl).trans r12)
        replace hs : St 37 a17 := ⟨hsz.trans hs.size, hdf.trans hs.nodef⟩
        clear hρ hsz hdf qx_ ql_ qk_ qlk_
        refine hK11 _ _ ?_
        clear hK11
        refine wp_seq_k fun K15 hK15 => ?_
        refine wp_seq_k fun K16 hK16 => ?_
        refine wp_region_lit ?_
        refine q_val rfl rfl ?_
        refine g_loadB rfl s6 Try.isAgg40 Try.sizeOf40 rfl h_q12 ?_
        intro a18 p18
        have s32 : a18.eval (.tmp 32) = .agg #[.int .i64 (nth (opT s) ((0 : Nat) : Int)), .int .i64 (nth (opT s) ((1 : Nat) : Int)), .int .i64 (nth (opT s) ((2 : Nat) : Int)), .string ⟨((opT s).drop 3).toArray⟩] := p18.at hs (by decide)
        replace hs := p18.st hs
        refine q_val rfl rfl ?_
        refine g_call rfl rfl Try.call30 (arr1 s32) ?_
        refine (frameOk_any (x := ⟨nth (opT s) ((0 : Nat) : Int), nth (opT s) ((1 : Nat) : Int), nth (opT s) ((2 : Nat) : Int), (opT s).drop 3⟩) _ (by unfold Txt; simp only [List.length_drop]; omega)).mono ?_
        rintro e w18 ⟨rfl, hb17⟩
        refine ⟨_, rfl, ?_⟩
        replace h_q2 := keep_below h_q2 hb17
        replace h_q12 := keep_below h_q12 hb17
        replace hB := hB.trans (hb17.mono hB.size)
        clear hb17
        intro a19 p19
        have s33 : a19.eval (.tmp 33) = .bool (frOk (frT (opT s))) := p19.at hs (by decide)
        replace hs := p19.st hs
        refine q_val rfl rfl ?_
        refine g_not rfl s33 ?_
        intro a20 p20
        have s34 : a20.eval (.tmp 34) = .bool (!(frOk (frT (opT s)))) := p20.at hs (by decide)
        replace hs := p20.st hs
        refine wpList_nil ?_
        replace s2 : a20.eval (.tmp 2) = .pointer (some ⟨q2, 0, none⟩) := ((p20.ne rfl).trans ((p19.ne rfl).trans (p18.ne rfl))).trans s2
        replace s3 : a20.eval (.tmp 3) = .bool false := ((p20.ne rfl).trans ((p19.ne rfl).trans (p18.ne rfl))).trans s3
        replace s6 : a20.eval (.tmp 6) = .pointer (some ⟨q12, 0, none⟩) := ((p20.ne rfl).trans ((p19.ne rfl).trans (p18.ne rfl))).trans s6
        refine hK16 _ _ ?_
        clear hK16
        cases h3 : frOk (frT (opT s))
        · replace s34 := s34.trans (congrArg (fun b => Value.bool (!b)) h3)
          replace s34 : a20.eval (.tmp 34) = .bool true := s34
          refine c_true s34 ?_
          refine wp_seq_k fun K19 hK19 => ?_
          refine wp_region_lit ?_
          refine q_val rfl rfl ?_
          refine g_build (cells := #[.int .i64 0, .int .i64 0, .int .i64 0, .string ⟨#[]⟩]) rfl (arrB0 ) (by kernel_rfl) ?_
          intro a21 p21
          have s35 : a21.eval (.tmp 35) = .agg #[.int .i64 0, .int .i64 0, .int .i64 0, .string ⟨#[]⟩] := p21.at hs (by decide)
          replace hs := p21.st hs
          refine q_eff rfl rfl ?_
          refine g_storeB rfl ((p21.ne rfl).trans s2) s35 Try.sizeOf40 rfl rfl h_q2 rfl ?_
          intro w20 W_w20
          replace h_q2 := W_w20.here
          replace h_q12 := keep_wrote h_q12 W_w20 n_q2_q12
          replace hB := below_wrote hB hB.size W_w20 g_q2.le
          clear W_w20
          refine q_val rfl rfl ?_
          refine g_assign rfl rfl ?_
          intro a22 p22
          have s3 : a22.eval (.tmp 3) = .bool false := p22.at hs (by decide)
          replace hs := p22.st hs
          refine wpList_nil ?_
          replace s2 : a22.eval (.tmp 2) = .pointer (some ⟨q2, 0, none⟩) := ((p22.ne rfl).trans (p21.ne rfl)).trans s2
          replace s6 : a22.eval (.tmp 6) = .pointer (some ⟨q12, 0, none⟩) := ((p22.ne rfl).trans (p21.ne rfl)).trans s6
          refine hK19 _ _ ?_
          clear hK19
          refine wp_ret ?_
          try dsimp only [Exit.then, Exit.inBlock]
          refine ret2 hs Try.results28 (res_cell s2 h_q2 Try.isAgg40 Try.sizeOf40 rfl) (res_tmp s3) ?_
          have e : dfO s = false := by unfold dfO; simp [h1, decide_eq_true h2, h3]
          rw [e, df_no e]
          exact ⟨rfl, hB⟩
        · replace s34 := s34.trans (congrArg (fun b => Value.bool (!b)) h3)
          replace s34 : a20.eval (.tmp 34) = .bool false := s34
          refine c_false s34 ?_
          refine wp_skip ?_
          refine hK15 _ _ ?_
          clear hK15
          refine wp_seq_k fun K21 hK21 => ?_
          refine wp_region_lit ?_
          refine q_val rfl rfl ?_
          refine g_loadB rfl s6 Try.isAgg40 Try.sizeOf40 rfl h_q12 ?_
          intro a21 p21
          have s36 : a21.eval (.tmp 36) = .agg #[.int .i64 (nth (opT s) ((0 : Nat) : Int)), .int .i64 (nth (opT s) ((1 : Nat) : Int)), .int .i64 (nth (opT s) ((2 : Nat) : Int)), .string ⟨((opT s).drop 3).toArray⟩] := p21.at hs (by decide)
          replace hs := p21.st hs
          refine q_eff rfl rfl ?_
          refine g_storeB rfl ((p21.ne rfl).trans s2) s36 Try.sizeOf40 rfl rfl h_q2 rfl ?_
          intro w22 W_w22
          replace h_q2 := W_w22.here
          replace h_q12 := keep_wrote h_q12 W_w22 n_q2_q12
          replace hB := below_wrote hB hB.size W_w22 g_q2.le
          clear W_w22
          refine q_val rfl rfl ?_
          refine g_assign rfl rfl ?_
          intro a22 p22
          have s3 : a22.eval (.tmp 3) = .bool true := p22.at hs (by decide)
          replace hs := p22.st hs
          refine wpList_nil ?_
          replace s2 : a22.eval (.tmp 2) = .pointer (some ⟨q2, 0, none⟩) := ((p22.ne rfl).trans (p21.ne rfl)).trans s2
          refine hK21 _ _ ?_
          clear hK21
          refine wp_ret ?_
          try dsimp only [Exit.then, Exit.inBlock]
          refine ret2 hs Try.results28 (res_cell s2 h_q2 Try.isAgg40 Try.sizeOf40 rfl) (res_tmp s3) ?_
          have e : dfO s = true := by unfold dfO; simp [h1, decide_eq_true h2, h3]
          rw [e, df_yes e]
          exact ⟨rfl, hB⟩
    · replace s18 := s18.trans (congrArg (fun b => Value.bool (!b)) (decide_eq_false h2))
      replace s18 : a16.eval (.tmp 18) = .bool true := s18
      refine c_true s18 ?_
      refine wp_seq_k fun K23 hK23 => ?_
      refine wp_region_lit ?_
      refine q_val rfl rfl ?_
      refine g_build (cells := #[.int .i64 0, .int .i64 0, .int .i64 0, .string ⟨#[]⟩]) rfl (arrB0 ) (by kernel_rfl) ?_
      intro a17 p17
      have s19 : a17.eval (.tmp 19) = .agg #[.int .i64 0, .int .i64 0, .int .i64 0, .string ⟨#[]⟩] := p17.at hs (by decide)
      replace hs := p17.st hs
      refine q_eff rfl rfl ?_
      refine g_storeB rfl ((p17.ne rfl).trans s2) s19 Try.sizeOf40 rfl rfl h_q2 rfl ?_
      intro w24 W_w24
      replace h_q2 := W_w24.here
      replace hB := below_wrote hB hB.size W_w24 g_q2.le
      clear W_w24
      refine q_val rfl rfl ?_
      refine g_assign rfl rfl ?_
      intro a18 p18
      have s3 : a18.eval (.tmp 3) = .bool false := p18.at hs (by decide)
      replace hs := p18.st hs
      refine wpList_nil ?_
      replace s2 : a18.eval (.tmp 2) = .pointer (some ⟨q2, 0, none⟩) := ((p18.ne rfl).trans (p17.ne rfl)).trans s2
      replace s4 : a18.eval (.tmp 4) = .string ⟨(opT s).toArray⟩ := ((p18.ne rfl).trans (p17.ne rfl)).trans s4
      refine hK23 _ _ ?_
      clear hK23
      refine wp_ret ?_
      try dsimp only [Exit.then, Exit.inBlock]
      refine ret2 hs Try.results28 (res_cell s2 h_q2 Try.isAgg40 Try.sizeOf40 rfl) (res_tmp s3) ?_
      have e : dfO s = false := by unfold dfO; simp [h1, decide_eq_false h2]
      rw [e, df_no e]
      exact ⟨rfl, hB⟩
end Go.Proofs.Ytmcgmiapbdoocaa
