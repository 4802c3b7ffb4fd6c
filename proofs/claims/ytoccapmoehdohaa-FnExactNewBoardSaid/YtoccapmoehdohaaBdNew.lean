/- Contracts: a new board, in the program and in the reference. No condition. -/
import Derived.Test.YtoccapmoehdohaaBdStep
namespace Go.Proofs.Ytoccapmoehdohaa
open Go.RowKit
set_option linter.unusedSimpArgs false
set_option linter.unusedVariables false

def newB (room : Int) (ls : List ELimit) : EBoard := ⟨0, List.replicate 8 0, false, ls, [], [], room, [], [], 0, 0, []⟩
def zeroB : EBoard := ⟨0, [], false, [], [], [], 0, [], [], 0, 0, []⟩
def bdNew (room : Int) (ls : List ELimit) : EBoard × Bool := if boOk (newB room ls) then (newB room ls, true) else (zeroB, false)
theorem newB_w {room : Int} {ls : List ELimit} (h : ls.length ≤ 1048576) : BdW (newB room ls) := ⟨by simp [newB], h, Nat.zero_le _, Nat.zero_le _, Nat.zero_le _, Nat.zero_le _, Nat.zero_le _, fun z hz => by cases hz⟩
theorem bdNew_yes {room : Int} {ls : List ELimit} (h : boOk (newB room ls) = true) : bdNew room ls = (newB room ls, true) := by unfold bdNew; rw [if_pos h]
theorem bdNew_no {room : Int} {ls : List ELimit} (h : boOk (newB room ls) = false) : bdNew room ls = (zeroB, false) := by unfold bdNew; rw [h]; rfl
set_option maxRecDepth 100000 in
set_option maxHeartbeats 4000000 in
theorem newBoard_any {room : Int} {A : Option Addr} {n c : Nat} {ls : List ELimit} (w : World) (hn : ls.length = n) (hm : n ≤ 1048576) (hnn_l : A = none → n = 0 ∧ c = 0) (hr_l : Rd w 3 A n (ls.flatMap cLimit)) :
    Calls Try.prog 12 #[.int .i64 room, .slice A n c] w fun e w' => ∃ S', e = .returned (.tuple #[bdV S' (bdNew room ls).1, .bool (bdNew room ls).2]) ∧ OwnB w' w.heap.size S' (bdNew room ls).1 ∧ Below w.heap.size w w' := by
  refine enter 18 Try.func12 rfl rfl (Nat.le_of_ble_eq_true rfl) ?_
  intro a0 hs hargs
  have s0 : a0.eval (.tmp 0) = .int .i64 room := hargs 0 _ rfl
  have s1 : a0.eval (.tmp 1) = .slice A n c := hargs 1 _ rfl
  clear hargs
  have hB : Below w.heap.size w w := Below.refl _ _
  refine wp_seq_k fun K1 hK1 => ?_
  refine wp_region_lit ?_
  refine q_v hs rfl rfl rfl ?_
  refine g_alloc rfl Try.zeroValue32 rfl ?_
  intro q2 w3 N_q2
  have g_q2 : GeB w.heap.size q2 := ⟨Nat.le_trans hB.size N_q2.lo⟩
  replace hB := below_new hB hB.size N_q2
  have h_q2 := N_q2.here
  clear N_q2
  intro a1 p1
  refine q_v p1.s rfl rfl rfl (g_assign rfl rfl ?_)
  intro a2 p2
  have s5 : a2.eval (.tmp 5) = .bool false := p2.v
  refine wpList_nil ?_
  replace s0 := p2.k (p1.k s0 rfl) rfl
  replace s1 := p2.k (p1.k s1 rfl) rfl
  replace s4 := p2.k p1.v rfl
  refine hK1 _ _ ?_
  clear hK1
  refine wp_seq_k fun K4 hK4 => ?_
  have hs := p2.s
  refine wp_drawn (n := 18) [] [7] [] (fun k_ v_ wx => match k_ with | 0 => ∃ (qm_r5 : Nat), v_ = .slice (some ⟨qm_r5, 0, none⟩) 8 8 ∧ ((wx).ownsRow w3.heap.size 3 1 (.slice (some ⟨qm_r5, 0, none⟩) 8 8) 8 ((List.replicate 8 0).flatMap cI)) | 1 => v_ = .slice A n c | 2 => ∃ (A6 : Option Addr) (c6 : Nat), v_ = .slice A6 n c6 ∧ ((wx).ownsRow w3.heap.size 36 3 (.slice A6 n c6) n (ls.flatMap cLimit)) | 3 => v_ = .int .i64 room | 4 => v_ = .agg #[.int .i64 room, .slice none 0 0, .slice none 0 0] | 5 => ∃ (qm_r5_r7 : Nat) (A_r8 : Option Addr) (c_r8 : Nat), v_ = .agg #[.int .i64 0, .slice (some ⟨qm_r5_r7, 0, none⟩) 8 8, .bool false, .slice A_r8 n c_r8, .slice none 0 0, .slice none 0 0, .int .i64 room, .slice none 0 0, .slice none 0 0, .int .i64 0, .int .i64 0, .slice none 0 0] ∧ ((wx).ownsRow w3.heap.size 3 1 (.slice (some ⟨qm_r5_r7, 0, none⟩) 8 8) 8 ((List.replicate 8 0).flatMap cI)) ∧ ((wx).ownsRow w3.heap.size 36 3 (.slice A_r8 n c_r8) n (ls.flatMap cLimit)) | 6 => ∃ q9, v_ = .pointer (some ⟨q9, 0, none⟩) ∧ w3.heap.size ≤ q9 ∧ wx.heap[q9]? = some (.cells #[.int .i64 0, .slice none 0 0, .bool false, .slice none 0 0, .slice none 0 0, .slice none 0 0, .int .i64 0, .slice none 0 0, .slice none 0 0, .int .i64 0, .int .i64 0, .slice none 0 0] 32 (0, 0)) | _ => True) (by kernel_rfl) (by kernel_rfl) (by kernel_rfl) (by kernel_rfl) hs.size ?_ ?_ ?_
  · intro i v wa wb hb hr
    rcases i with _ | _ | _ | _ | _ | _ | _ | _ | i
    · obtain ⟨qm_r5, hr, o_r5⟩ := hr; exact ⟨qm_r5, hr, own_below o_r5 hb⟩
    · exact hr
    · obtain ⟨A6, c6, hr, o_x6⟩ := hr; exact ⟨A6, c6, hr, own_below o_x6 hb⟩
    · exact hr
    · exact hr
    · obtain ⟨qm_r5_r7, A_r8, c_r8, hr, o_r7, o_r8⟩ := hr; exact ⟨qm_r5_r7, A_r8, c_r8, hr, own_below o_r7 hb, own_below o_r8 hb⟩
    · obtain ⟨q9, hr, hg, hh⟩ := hr; exact ⟨q9, hr, hg, keep_below hh hb⟩
    · trivial
    · trivial
  · refine d_step rfl rfl ?_ (d_step rfl rfl ?_ (d_step rfl rfl ?_ (d_step rfl rfl ?_ (d_step rfl rfl ?_ (d_step rfl rfl ?_ (d_step rfl rfl ?_ (d_chain rfl (d_nil))))))))
    · intro xv_ wx ρ hρ hwx hd K hK
      refine g_makeI (N := 8) (bytes := 8) w3.heap.size rfl ((hρ.cst _)) ((hρ.cst _)) (by omega) Try.underlying24 infoI64 (by omega) (by unfold maxLen; omega) hwx.size ?_
      intro q w' ho hb
      exact hK _ _ hb ⟨q, rfl, ho⟩
    · intro xv_ wx ρ hρ hwx hd K hK
      have e1 : ρ (.tmp 1) = .slice A n c := (hρ.inn 1 rfl).trans s1
      refine g_move rfl e1 ?_
      exact hK _ _ (Below.refl _ _) rfl
    · intro xv_ wx ρ hρ hwx hd K hK
      have e8 := (out2 hρ hs 1 8 rfl rfl rfl).trans (hd 1 rfl)
      refine g_call rfl (hρ.fn _) Try.call39 (arr1 e8) ?_
      refine (cloneLimit_any _ _ _ ls _ hn (by omega) ((hr_l.below hB).below hwx)).mono ?_
      rintro e wy ⟨A6, c6, rfl, o_x6, hb6⟩
      exact ⟨_, rfl, hK _ _ hb6 ⟨A6, c6, rfl, own_base o_x6 hwx.size⟩⟩
    · intro xv_ wx ρ hρ hwx hd K hK
      have e0 : ρ (.tmp 0) = .int .i64 room := (hρ.inn 0 rfl).trans s0
      refine g_move rfl e0 ?_
      exact hK _ _ (Below.refl _ _) rfl
    · intro xv_ wx ρ hρ hwx hd K hK
      have e10 := (out2 hρ hs 3 10 rfl rfl rfl).trans (hd 3 rfl)
      refine g_build (cells := #[.int .i64 room, .slice none 0 0, .slice none 0 0]) rfl (arrB1 e10) (by kernel_rfl) ?_
      exact hK _ _ (Below.refl _ _) rfl
    · intro xv_ wx ρ hρ hwx hd K hK
      obtain ⟨qm_r5, r0, o_r5⟩ : ∃ (qm_r5 : Nat), xv_ 0 = .slice (some ⟨qm_r5, 0, none⟩) 8 8 ∧ ((wx).ownsRow w3.heap.size 3 1 (.slice (some ⟨qm_r5, 0, none⟩) 8 8) 8 ((List.replicate 8 0).flatMap cI)) := hd 0 rfl
      have e7 : ρ (.tmp 7) = .slice (some ⟨qm_r5, 0, none⟩) 8 8 := (hρ.out 0 7 rfl (by rw [hs.size]; decide) rfl).trans r0
      obtain ⟨A6, c6, r2, o_x6⟩ : ∃ (A6 : Option Addr) (c6 : Nat), xv_ 2 = .slice A6 n c6 ∧ ((wx).ownsRow w3.heap.size 36 3 (.slice A6 n c6) n (ls.flatMap cLimit)) := hd 2 rfl
      have e9 : ρ (.tmp 9) = .slice A6 n c6 := (hρ.out 2 9 rfl (by rw [hs.size]; decide) rfl).trans r2
      have e11 := (out2 hρ hs 4 11 rfl rfl rfl).trans (hd 4 rfl)
      refine g_build (cells := #[.int .i64 0, .slice (some ⟨qm_r5, 0, none⟩) 8 8, .bool false, .slice A6 n c6, .slice none 0 0, .slice none 0 0, .int .i64 room, .slice none 0 0, .slice none 0 0, .int .i64 0, .int .i64 0, .slice none 0 0]) rfl (arrB3 e7 e9 e11) (by kernel_rfl) ?_
      exact hK _ _ (Below.refl _ _) ⟨qm_r5, A6, c6, rfl, o_r5, o_x6⟩
    · intro xv_ wx ρ hρ hwx hd K hK
      refine g_alloc rfl Try.zeroValue32 rfl ?_
      intro q w' N
      exact hK _ _ N.below ⟨q, rfl, Nat.le_trans hwx.size N.lo, N.here⟩
  · intro x0_ w10 hb_w10 hr0
    obtain ⟨qm_r5, r0, o_r5⟩ : ∃ (qm_r5 : Nat), x0_ 0 = .slice (some ⟨qm_r5, 0, none⟩) 8 8 ∧ ((w10).ownsRow w3.heap.size 3 1 (.slice (some ⟨qm_r5, 0, none⟩) 8 8) 8 ((List.replicate 8 0).flatMap cI)) := hr0 0 (by decide) rfl rfl
    obtain ⟨A6, c6, r2, o_x6⟩ : ∃ (A6 : Option Addr) (c6 : Nat), x0_ 2 = .slice A6 n c6 ∧ ((w10).ownsRow w3.heap.size 36 3 (.slice A6 n c6) n (ls.flatMap cLimit)) := hr0 2 (by decide) rfl rfl
    obtain ⟨qm_r5_r7, A_r8, c_r8, r5, o_r7, o_r8⟩ : ∃ (qm_r5_r7 : Nat) (A_r8 : Option Addr) (c_r8 : Nat), x0_ 5 = .agg #[.int .i64 0, .slice (some ⟨qm_r5_r7, 0, none⟩) 8 8, .bool false, .slice A_r8 n c_r8, .slice none 0 0, .slice none 0 0, .int .i64 room, .slice none 0 0, .slice none 0 0, .int .i64 0, .int .i64 0, .slice none 0 0] ∧ ((w10).ownsRow w3.heap.size 3 1 (.slice (some ⟨qm_r5_r7, 0, none⟩) 8 8) 8 ((List.replicate 8 0).flatMap cI)) ∧ ((w10).ownsRow w3.heap.size 36 3 (.slice A_r8 n c_r8) n (ls.flatMap cLimit)) := hr0 5 (by decide) rfl rfl
    obtain ⟨q9, r6, g0_q9, h_q9⟩ : ∃ q9, x0_ 6 = .pointer (some ⟨q9, 0, none⟩) ∧ w3.heap.size ≤ q9 ∧ w10.heap[q9]? = some (.cells #[.int .i64 0, .slice none 0 0, .bool false, .slice none 0 0, .slice none 0 0, .slice none 0 0, .int .i64 0, .slice none 0 0, .slice none 0 0, .int .i64 0, .int .i64 0, .slice none 0 0] 32 (0, 0)) := hr0 6 (by decide) rfl rfl
    have d_r7_q2 := own_ne_box o_r7 (lt_of_block h_q2)
    replace o_r7 := own_base (base := w.heap.size) o_r7 hB.size
    have d_r8_q2 := own_ne_box o_r8 (lt_of_block h_q2)
    replace o_r8 := own_base (base := w.heap.size) o_r8 hB.size
    have n_q2_q9 : NeB q2 q9 := ⟨fun e => by have := lt_of_block h_q2; omega⟩
    have n_q9_q2 := n_q2_q9.symm
    have g_q9 : GeB w.heap.size q9 := ⟨Nat.le_trans hB.size g0_q9⟩
    clear g0_q9
    have d_r7_q9 := own_ne_cells o_r7 h_q9 (by decide)
    have d_r8_q9 := own_ne_cells o_r8 h_q9 (by decide)
    replace h_q2 := keep_below h_q2 hb_w10
    replace hB := hB.trans (hb_w10.mono hB.size)
    clear hb_w10
    intro op_ ho_ xv_ ρ hρ qx_ ql_ qk_
    obtain rfl := Option.some.inj ho_
    clear ho_
    have e6 : ρ (.tmp 6) = .pointer (some ⟨q9, 0, none⟩) := (hρ.out 6 6 rfl (by rw [hs.size]; decide) rfl).trans ((qx_ 6 (by decide) rfl rfl).trans r6)
    have e12 : ρ (.tmp 12) = .agg #[.int .i64 0, .slice (some ⟨qm_r5_r7, 0, none⟩) 8 8, .bool false, .slice A_r8 n c_r8, .slice none 0 0, .slice none 0 0, .int .i64 room, .slice none 0 0, .slice none 0 0, .int .i64 0, .int .i64 0, .slice none 0 0] := (hρ.out 5 12 rfl (by rw [hs.size]; decide) rfl).trans ((qx_ 5 (by decide) rfl rfl).trans r5)
    refine g_storeB rfl e6 e12 Try.sizeOf32 rfl rfl h_q9 rfl ?_
    intro w11 W_w11
    replace h_q2 := keep_wrote h_q2 W_w11 n_q9_q2
    replace h_q9 := W_w11.here
    replace o_r7 := own_wrote o_r7 W_w11 d_r7_q9
    replace o_r8 := own_wrote o_r8 W_w11 d_r8_q9
    replace hB := below_wrote hB hB.size W_w11 g_q9.le
    clear W_w11
    clear e12 e6
    clear hρ qx_ ql_ qk_
    intro xv_ a3 hρ hsz hdf qx_ ql_ qk_ qlk_
    replace s4 : a3.eval (.tmp 4) = .pointer (some ⟨q2, 0, none⟩) := (hρ.inn 4 rfl).trans s4
    replace s5 : a3.eval (.tmp 5) = .bool false := (hρ.inn 5 rfl).trans s5
    have s6 : a3.eval (.tmp 6) = .pointer (some ⟨q9, 0, none⟩) := (hρ.out 6 6 rfl (by rw [hs.size]; decide)).trans ((qx_ 6 (by decide) rfl rfl).trans r6)
    replace hs : St 18 a3 := ⟨hsz.trans hs.size, hdf.trans hs.nodef⟩
    clear hρ hsz hdf qx_ ql_ qk_ qlk_
    refine hK4 _ _ ?_
    clear hK4
    refine wp_seq_k fun K12 hK12 => ?_
    refine wp_seq_k fun K13 hK13 => ?_
    refine wp_region_lit ?_
    refine q_v hs rfl rfl rfl (g_loadB rfl s6 Try.isAgg32 Try.sizeOf32 rfl h_q9 ?_)
    intro a4 p4
    refine q_v p4.s rfl rfl rfl ?_
    refine g_call rfl rfl Try.call21 (arr1 p4.v) ?_
    refine (boardOk_any (S := (⟨⟨(some ⟨qm_r5_r7, 0, none⟩), 8, 8⟩, ⟨A_r8, n, c_r8⟩, ⟨none, 0, 0⟩, ⟨none, 0, 0⟩, ⟨none, 0, 0⟩, ⟨none, 0, 0⟩, ⟨none, 0, 0⟩⟩ : BSl)) (b := newB room ls) _ ⟨⟨(Rd.of_own o_r7), (List.length_replicate ..), (own_nil o_r7), (own_cap o_r7).1⟩, ⟨(Rd.of_own o_r8), hn, (own_nil o_r8), (own_cap o_r8).1⟩, ⟨(rdN _ 5), rfl, (fun _ => ⟨rfl, rfl⟩), (Nat.le_refl _)⟩, ⟨(rdN _ 3), rfl, (fun _ => ⟨rfl, rfl⟩), (Nat.le_refl _)⟩, ⟨(rdN _ 4), rfl, (fun _ => ⟨rfl, rfl⟩), (Nat.le_refl _)⟩, ⟨(rdN _ 1), rfl, (fun _ => ⟨rfl, rfl⟩), (Nat.le_refl _)⟩, ⟨(rdN _ 1), rfl, (fun _ => ⟨rfl, rfl⟩), (Nat.le_refl _)⟩⟩ (newB_w (by omega))).mono ?_
    rintro e w15 ⟨rfl, hb14⟩
    refine ⟨_, rfl, ?_⟩
    replace h_q2 := keep_below h_q2 hb14
    replace h_q9 := keep_below h_q9 hb14
    replace o_r7 := own_below o_r7 hb14
    replace o_r8 := own_below o_r8 hb14
    replace hB := hB.trans (hb14.mono hB.size)
    clear hb14
    intro a5 p5
    refine q_v p5.s rfl rfl rfl (g_not rfl p5.v ?_)
    intro a6 p6
    refine wpList_nil ?_
    have kc3 := (((Kps.nil a3).u p4).u p5).u p6
    replace s4 := kc3.k s4 rfl
    replace s5 := kc3.k s5 rfl
    replace s6 := kc3.k s6 rfl
    replace s15 := p6.v
    clear kc3
    refine hK13 _ _ ?_
    clear hK13
    cases hok : boOk (newB room ls)
    · replace s15 : a6.eval (.tmp 15) = .bool true := (s15).trans (congrArg (fun b => Value.bool (!b)) hok)
      refine c_true s15 ?_
      refine wp_seq_k fun K16 hK16 => ?_
      refine wp_region_lit ?_
      refine q_v p6.s rfl rfl rfl (g_build (cells := #[.int .i64 0, .slice none 0 0, .bool false, .slice none 0 0, .slice none 0 0, .slice none 0 0, .int .i64 0, .slice none 0 0, .slice none 0 0, .int .i64 0, .int .i64 0, .slice none 0 0]) rfl (arrB0 ) (by kernel_rfl) ?_)
      intro a7 p7
      refine q_eff rfl rfl ?_
      refine g_storeB rfl (p7.k s4 rfl) p7.v Try.sizeOf32 rfl rfl h_q2 rfl ?_
      intro w17 W_w17
      replace h_q2 := W_w17.here
      replace h_q9 := keep_wrote h_q9 W_w17 n_q2_q9
      replace o_r7 := own_wrote o_r7 W_w17 d_r7_q2
      replace o_r8 := own_wrote o_r8 W_w17 d_r8_q2
      replace hB := below_wrote hB hB.size W_w17 g_q2.le
      clear W_w17
      refine q_v p7.s rfl rfl rfl (g_assign rfl rfl ?_)
      intro a8 p8
      have s5 : a8.eval (.tmp 5) = .bool false := p8.v
      refine wpList_nil ?_
      replace s4 := p8.k (p7.k s4 rfl) rfl
      replace s6 := p8.k (p7.k s6 rfl) rfl
      refine hK16 _ _ ?_
      clear hK16
      refine wp_ret ?_
      try dsimp only [Exit.then, Exit.inBlock]
      refine ret2 p8.s Try.results12 (res_cell s4 h_q2 Try.isAgg32 Try.sizeOf32 rfl) (res_tmp s5) ?_
      rw [bdNew_no hok]
      exact ⟨⟨⟨none, 0, 0⟩, ⟨none, 0, 0⟩, ⟨none, 0, 0⟩, ⟨none, 0, 0⟩, ⟨none, 0, 0⟩, ⟨none, 0, 0⟩, ⟨none, 0, 0⟩⟩, rfl, ⟨World.ownsRow_nil _ _ _ _, World.ownsRow_nil _ _ _ _, World.ownsRow_nil _ _ _ _, World.ownsRow_nil _ _ _ _, World.ownsRow_nil _ _ _ _, World.ownsRow_nil _ _ _ _, World.ownsRow_nil _ _ _ _, (fun _ h => by cases h), (fun _ h => by cases h), (fun _ h => by cases h)⟩, hB⟩
    replace s15 : a6.eval (.tmp 15) = .bool false := (s15).trans (congrArg (fun b => Value.bool (!b)) hok)
    refine c_false s15 ?_
    refine wp_skip ?_
    refine hK12 _ _ ?_
    clear hK12
    refine wp_seq_k fun K18 hK18 => ?_
    refine wp_region_lit ?_
    refine q_v p6.s rfl rfl rfl (g_loadB rfl s6 Try.isAgg32 Try.sizeOf32 rfl h_q9 ?_)
    intro a7 p7
    refine q_eff rfl rfl ?_
    refine g_storeB rfl (p7.k s4 rfl) p7.v Try.sizeOf32 rfl rfl h_q2 rfl ?_
    intro w19 W_w19
    replace h_q2 := W_w19.here
    replace o_r7 := own_wrote o_r7 W_w19 d_r7_q2
    replace o_r8 := own_wrote o_r8 W_w19 d_r8_q2
    replace hB := below_wrote hB hB.size W_w19 g_q2.le
    clear W_w19
    refine q_v p7.s rfl rfl rfl (g_assign rfl rfl ?_)
    intro a8 p8
    have s5 : a8.eval (.tmp 5) = .bool true := p8.v
    refine wpList_nil ?_
    replace s4 := p8.k (p7.k s4 rfl) rfl
    refine hK18 _ _ ?_
    clear hK18
    refine wp_ret ?_
    try dsimp only [Exit.then, Exit.inBlock]
    refine ret2 p8.s Try.results12 (res_cell s4 h_q2 Try.isAgg32 Try.sizeOf32 rfl) (res_tmp s5) ?_
    rw [bdNew_yes hok]
    exact ⟨⟨⟨(some ⟨qm_r5_r7, 0, none⟩), 8, 8⟩, ⟨A_r8, n, c_r8⟩, ⟨none, 0, 0⟩, ⟨none, 0, 0⟩, ⟨none, 0, 0⟩, ⟨none, 0, 0⟩, ⟨none, 0, 0⟩⟩, rfl, ⟨o_r7, o_r8, World.ownsRow_nil _ _ _ _, World.ownsRow_nil _ _ _ _, World.ownsRow_nil _ _ _ _, World.ownsRow_nil _ _ _ _, World.ownsRow_nil _ _ _ _, (fun _ _ h => by cases h), (fun _ _ h => by cases h), (fun _ h => by cases h)⟩, hB⟩
set_option maxRecDepth 100000 in
set_option maxHeartbeats 4000000 in
theorem sNewBoard_any {room : Int} {A : Option Addr} {n c : Nat} {ls : List ELimit} (w : World) (hn : ls.length = n) (hm : n ≤ 1048576) (hnn_l : A = none → n = 0 ∧ c = 0) (hr_l : Rd w 3 A n (ls.flatMap cLimit)) :
    Calls Try.prog 27 #[.int .i64 room, .slice A n c] w fun e w' => ∃ S', e = .returned (.tuple #[bdV S' (bdNew room ls).1, .bool (bdNew room ls).2]) ∧ OwnB w' w.heap.size S' (bdNew room ls).1 ∧ Below w.heap.size w w' := by
  refine enter 19 Try.func27 rfl rfl (Nat.le_of_ble_eq_true rfl) ?_
  intro a0 hs hargs
  have s0 : a0.eval (.tmp 0) = .int .i64 room := hargs 0 _ rfl
  have s1 : a0.eval (.tmp 1) = .slice A n c := hargs 1 _ rfl
  clear hargs
  have hB : Below w.heap.size w w := Below.refl _ _
  refine wp_seq_k fun K1 hK1 => ?_
  refine wp_region_lit ?_
  refine q_v hs rfl rfl rfl ?_
  refine g_alloc rfl Try.zeroValue32 rfl ?_
  intro q2 w3 N_q2
  have g_q2 : GeB w.heap.size q2 := ⟨Nat.le_trans hB.size N_q2.lo⟩
  replace hB := below_new hB hB.size N_q2
  have h_q2 := N_q2.here
  clear N_q2
  intro a1 p1
  refine q_v p1.s rfl rfl rfl (g_assign rfl rfl ?_)
  intro a2 p2
  have s5 : a2.eval (.tmp 5) = .bool false := p2.v
  refine wpList_nil ?_
  replace s0 := p2.k (p1.k s0 rfl) rfl
  replace s1 := p2.k (p1.k s1 rfl) rfl
  replace s4 := p2.k p1.v rfl
  refine hK1 _ _ ?_
  clear hK1
  refine wp_seq_k fun K4 hK4 => ?_
  have hs := p2.s
  refine wp_drawn (n := 19) [] [8] [] (fun k_ v_ wx => match k_ with | 0 => ∃ (qm_r5 : Nat), v_ = .slice (some ⟨qm_r5, 0, none⟩) 8 8 ∧ ((wx).ownsRow w3.heap.size 3 1 (.slice (some ⟨qm_r5, 0, none⟩) 8 8) 8 ((List.replicate 8 0).flatMap cI)) | 1 => ∃ q6, v_ = .slice (some ⟨q6, 0, none⟩) 0 0 ∧ w3.heap.size ≤ q6 ∧ wx.heap[q6]? = some (.cells #[] 36 (0, 0)) | 2 => v_ = .slice A n c | 3 => ∃ (A_r7 : Option Addr) (c_r7 : Nat), v_ = .slice A_r7 n c_r7 ∧ ((wx).ownsRow w3.heap.size 36 3 (.slice A_r7 n c_r7) n (ls.flatMap cLimit)) | 4 => v_ = .int .i64 room | 5 => v_ = .agg #[.int .i64 room, .slice none 0 0, .slice none 0 0] | 6 => ∃ (qm_r5_r8 : Nat) (A_r9 : Option Addr) (c_r9 : Nat), v_ = .agg #[.int .i64 0, .slice (some ⟨qm_r5_r8, 0, none⟩) 8 8, .bool false, .slice A_r9 n c_r9, .slice none 0 0, .slice none 0 0, .int .i64 room, .slice none 0 0, .slice none 0 0, .int .i64 0, .int .i64 0, .slice none 0 0] ∧ ((wx).ownsRow w3.heap.size 3 1 (.slice (some ⟨qm_r5_r8, 0, none⟩) 8 8) 8 ((List.replicate 8 0).flatMap cI)) ∧ ((wx).ownsRow w3.heap.size 36 3 (.slice A_r9 n c_r9) n (ls.flatMap cLimit)) | 7 => ∃ q10, v_ = .pointer (some ⟨q10, 0, none⟩) ∧ w3.heap.size ≤ q10 ∧ wx.heap[q10]? = some (.cells #[.int .i64 0, .slice none 0 0, .bool false, .slice none 0 0, .slice none 0 0, .slice none 0 0, .int .i64 0, .slice none 0 0, .slice none 0 0, .int .i64 0, .int .i64 0, .slice none 0 0] 32 (0, 0)) | _ => True) (by kernel_rfl) (by kernel_rfl) (by kernel_rfl) (by kernel_rfl) hs.size ?_ ?_ ?_
  · intro i v wa wb hb hr
    rcases i with _ | _ | _ | _ | _ | _ | _ | _ | _ | i
    · obtain ⟨qm_r5, hr, o_r5⟩ := hr; exact ⟨qm_r5, hr, own_below o_r5 hb⟩
    · obtain ⟨q6, hr, hg, hh⟩ := hr; exact ⟨q6, hr, hg, keep_below hh hb⟩
    · exact hr
    · obtain ⟨A_r7, c_r7, hr, o_r7⟩ := hr; exact ⟨A_r7, c_r7, hr, own_below o_r7 hb⟩
    · exact hr
    · exact hr
    · obtain ⟨qm_r5_r8, A_r9, c_r9, hr, o_r8, o_r9⟩ := hr; exact ⟨qm_r5_r8, A_r9, c_r9, hr, own_below o_r8 hb, own_below o_r9 hb⟩
    · obtain ⟨q10, hr, hg, hh⟩ := hr; exact ⟨q10, hr, hg, keep_below hh hb⟩
    · trivial
    · trivial
  · refine d_step rfl rfl ?_ (d_step rfl rfl ?_ (d_step rfl rfl ?_ (d_step rfl rfl ?_ (d_step rfl rfl ?_ (d_step rfl rfl ?_ (d_step rfl rfl ?_ (d_step rfl rfl ?_ (d_chain rfl (d_nil)))))))))
    · intro xv_ wx ρ hρ hwx hd K hK
      refine g_makeI (N := 8) (bytes := 8) w3.heap.size rfl ((hρ.cst _)) ((hρ.cst _)) (by omega) Try.underlying24 infoI64 (by omega) (by unfold maxLen; omega) hwx.size ?_
      intro q w' ho hb
      exact hK _ _ hb ⟨q, rfl, ho⟩
    · intro xv_ wx ρ hρ hwx hd K hK
      refine g_bslice0 rfl Try.underlying25 Try.sizeOf36 ?_
      intro q w' N
      exact hK _ _ N.below ⟨q, rfl, Nat.le_trans hwx.size N.lo, N.here⟩
    · intro xv_ wx ρ hρ hwx hd K hK
      have e1 : ρ (.tmp 1) = .slice A n c := (hρ.inn 1 rfl).trans s1
      refine g_move rfl e1 ?_
      exact hK _ _ (Below.refl _ _) rfl
    · intro xv_ wx ρ hρ hwx hd K hK
      obtain ⟨q6, r1, g0_q6, h_q6⟩ : ∃ q6, xv_ 1 = .slice (some ⟨q6, 0, none⟩) 0 0 ∧ w3.heap.size ≤ q6 ∧ wx.heap[q6]? = some (.cells #[] 36 (0, 0)) := hd 1 rfl
      have e8 : ρ (.tmp 8) = .slice (some ⟨q6, 0, none⟩) 0 0 := (hρ.out 1 8 rfl (by rw [hs.size]; decide) rfl).trans r1
      have e9 := (out2 hρ hs 2 9 rfl rfl rfl).trans (hd 2 rfl)
      refine g_append_fresh (news := ls.flatMap cLimit) w3.heap.size (.agg #[.int .i64 0, .int .i64 0, .int .i64 0]) 3 24 rfl e8 e9 Try.underlying25 infoLimit rfl (by decide) g0_q6 h_q6 hnn_l ((hr_l.below hB).below hwx) (flatLimit_one _) (by omega) hwx.size (by decide) ?_
      intro A c w' ho hb
      exact hK _ _ hb ⟨A, c, rfl, ho⟩
    · intro xv_ wx ρ hρ hwx hd K hK
      have e0 : ρ (.tmp 0) = .int .i64 room := (hρ.inn 0 rfl).trans s0
      refine g_move rfl e0 ?_
      exact hK _ _ (Below.refl _ _) rfl
    · intro xv_ wx ρ hρ hwx hd K hK
      have e11 := (out2 hρ hs 4 11 rfl rfl rfl).trans (hd 4 rfl)
      refine g_build (cells := #[.int .i64 room, .slice none 0 0, .slice none 0 0]) rfl (arrB1 e11) (by kernel_rfl) ?_
      exact hK _ _ (Below.refl _ _) rfl
    · intro xv_ wx ρ hρ hwx hd K hK
      obtain ⟨qm_r5, r0, o_r5⟩ : ∃ (qm_r5 : Nat), xv_ 0 = .slice (some ⟨qm_r5, 0, none⟩) 8 8 ∧ ((wx).ownsRow w3.heap.size 3 1 (.slice (some ⟨qm_r5, 0, none⟩) 8 8) 8 ((List.replicate 8 0).flatMap cI)) := hd 0 rfl
      have e7 : ρ (.tmp 7) = .slice (some ⟨qm_r5, 0, none⟩) 8 8 := (hρ.out 0 7 rfl (by rw [hs.size]; decide) rfl).trans r0
      obtain ⟨A_r7, c_r7, r3, o_r7⟩ : ∃ (A_r7 : Option Addr) (c_r7 : Nat), xv_ 3 = .slice A_r7 n c_r7 ∧ ((wx).ownsRow w3.heap.size 36 3 (.slice A_r7 n c_r7) n (ls.flatMap cLimit)) := hd 3 rfl
      have e10 : ρ (.tmp 10) = .slice A_r7 n c_r7 := (hρ.out 3 10 rfl (by rw [hs.size]; decide) rfl).trans r3
      have e12 := (out2 hρ hs 5 12 rfl rfl rfl).trans (hd 5 rfl)
      refine g_build (cells := #[.int .i64 0, .slice (some ⟨qm_r5, 0, none⟩) 8 8, .bool false, .slice A_r7 n c_r7, .slice none 0 0, .slice none 0 0, .int .i64 room, .slice none 0 0, .slice none 0 0, .int .i64 0, .int .i64 0, .slice none 0 0]) rfl (arrB3 e7 e10 e12) (by kernel_rfl) ?_
      exact hK _ _ (Below.refl _ _) ⟨qm_r5, A_r7, c_r7, rfl, o_r5, o_r7⟩
    · intro xv_ wx ρ hρ hwx hd K hK
      refine g_alloc rfl Try.zeroValue32 rfl ?_
      intro q w' N
      exact hK _ _ N.below ⟨q, rfl, Nat.le_trans hwx.size N.lo, N.here⟩
  · intro x0_ w11 hb_w11 hr0
    obtain ⟨qm_r5, r0, o_r5⟩ : ∃ (qm_r5 : Nat), x0_ 0 = .slice (some ⟨qm_r5, 0, none⟩) 8 8 ∧ ((w11).ownsRow w3.heap.size 3 1 (.slice (some ⟨qm_r5, 0, none⟩) 8 8) 8 ((List.replicate 8 0).flatMap cI)) := hr0 0 (by decide) rfl rfl
    obtain ⟨q6, r1, g0_q6, h_q6⟩ : ∃ q6, x0_ 1 = .slice (some ⟨q6, 0, none⟩) 0 0 ∧ w3.heap.size ≤ q6 ∧ w11.heap[q6]? = some (.cells #[] 36 (0, 0)) := hr0 1 (by decide) rfl rfl
    obtain ⟨A_r7, c_r7, r3, o_r7⟩ : ∃ (A_r7 : Option Addr) (c_r7 : Nat), x0_ 3 = .slice A_r7 n c_r7 ∧ ((w11).ownsRow w3.heap.size 36 3 (.slice A_r7 n c_r7) n (ls.flatMap cLimit)) := hr0 3 (by decide) rfl rfl
    obtain ⟨qm_r5_r8, A_r9, c_r9, r6, o_r8, o_r9⟩ : ∃ (qm_r5_r8 : Nat) (A_r9 : Option Addr) (c_r9 : Nat), x0_ 6 = .agg #[.int .i64 0, .slice (some ⟨qm_r5_r8, 0, none⟩) 8 8, .bool false, .slice A_r9 n c_r9, .slice none 0 0, .slice none 0 0, .int .i64 room, .slice none 0 0, .slice none 0 0, .int .i64 0, .int .i64 0, .slice none 0 0] ∧ ((w11).ownsRow w3.heap.size 3 1 (.slice (some ⟨qm_r5_r8, 0, none⟩) 8 8) 8 ((List.replicate 8 0).flatMap cI)) ∧ ((w11).ownsRow w3.heap.size 36 3 (.slice A_r9 n c_r9) n (ls.flatMap cLimit)) := hr0 6 (by decide) rfl rfl
    obtain ⟨q10, r7, g0_q10, h_q10⟩ : ∃ q10, x0_ 7 = .pointer (some ⟨q10, 0, none⟩) ∧ w3.heap.size ≤ q10 ∧ w11.heap[q10]? = some (.cells #[.int .i64 0, .slice none 0 0, .bool false, .slice none 0 0, .slice none 0 0, .slice none 0 0, .int .i64 0, .slice none 0 0, .slice none 0 0, .int .i64 0, .int .i64 0, .slice none 0 0] 32 (0, 0)) := hr0 7 (by decide) rfl rfl
    have d_r8_q2 := own_ne_box o_r8 (lt_of_block h_q2)
    replace o_r8 := own_base (base := w.heap.size) o_r8 hB.size
    have d_r9_q2 := own_ne_box o_r9 (lt_of_block h_q2)
    replace o_r9 := own_base (base := w.heap.size) o_r9 hB.size
    have n_q2_q10 : NeB q2 q10 := ⟨fun e => by have := lt_of_block h_q2; omega⟩
    have n_q10_q2 := n_q2_q10.symm
    have g_q10 : GeB w.heap.size q10 := ⟨Nat.le_trans hB.size g0_q10⟩
    clear g0_q10
    have d_r8_q10 := own_ne_cells o_r8 h_q10 (by decide)
    have d_r9_q10 := own_ne_cells o_r9 h_q10 (by decide)
    replace h_q2 := keep_below h_q2 hb_w11
    replace hB := hB.trans (hb_w11.mono hB.size)
    clear hb_w11
    intro op_ ho_ xv_ ρ hρ qx_ ql_ qk_
    obtain rfl := Option.some.inj ho_
    clear ho_
    have e6 : ρ (.tmp 6) = .pointer (some ⟨q10, 0, none⟩) := (hρ.out 7 6 rfl (by rw [hs.size]; decide) rfl).trans ((qx_ 7 (by decide) rfl rfl).trans r7)
    have e13 : ρ (.tmp 13) = .agg #[.int .i64 0, .slice (some ⟨qm_r5_r8, 0, none⟩) 8 8, .bool false, .slice A_r9 n c_r9, .slice none 0 0, .slice none 0 0, .int .i64 room, .slice none 0 0, .slice none 0 0, .int .i64 0, .int .i64 0, .slice none 0 0] := (hρ.out 6 13 rfl (by rw [hs.size]; decide) rfl).trans ((qx_ 6 (by decide) rfl rfl).trans r6)
    refine g_storeB rfl e6 e13 Try.sizeOf32 rfl rfl h_q10 rfl ?_
    intro w12 W_w12
    replace h_q2 := keep_wrote h_q2 W_w12 n_q10_q2
    replace h_q10 := W_w12.here
    replace o_r8 := own_wrote o_r8 W_w12 d_r8_q10
    replace o_r9 := own_wrote o_r9 W_w12 d_r9_q10
    replace hB := below_wrote hB hB.size W_w12 g_q10.le
    clear W_w12
    clear e13 e6
    clear hρ qx_ ql_ qk_
    intro xv_ a3 hρ hsz hdf qx_ ql_ qk_ qlk_
    replace s4 : a3.eval (.tmp 4) = .pointer (some ⟨q2, 0, none⟩) := (hρ.inn 4 rfl).trans s4
    replace s5 : a3.eval (.tmp 5) = .bool false := (hρ.inn 5 rfl).trans s5
    have s6 : a3.eval (.tmp 6) = .pointer (some ⟨q10, 0, none⟩) := (hρ.out 7 6 rfl (by rw [hs.size]; decide)).trans ((qx_ 7 (by decide) rfl rfl).trans r7)
    replace hs : St 19 a3 := ⟨hsz.trans hs.size, hdf.trans hs.nodef⟩
    clear hρ hsz hdf qx_ ql_ qk_ qlk_
    refine hK4 _ _ ?_
    clear hK4
    refine wp_seq_k fun K13 hK13 => ?_
    refine wp_seq_k fun K14 hK14 => ?_
    refine wp_region_lit ?_
    refine q_v hs rfl rfl rfl (g_loadB rfl s6 Try.isAgg32 Try.sizeOf32 rfl h_q10 ?_)
    intro a4 p4
    refine q_v p4.s rfl rfl rfl ?_
    refine g_call rfl rfl Try.call23 (arr1 p4.v) ?_
    refine (sBoardOk_any (S := (⟨⟨(some ⟨qm_r5_r8, 0, none⟩), 8, 8⟩, ⟨A_r9, n, c_r9⟩, ⟨none, 0, 0⟩, ⟨none, 0, 0⟩, ⟨none, 0, 0⟩, ⟨none, 0, 0⟩, ⟨none, 0, 0⟩⟩ : BSl)) (b := newB room ls) _ ⟨⟨(Rd.of_own o_r8), (List.length_replicate ..), (own_nil o_r8), (own_cap o_r8).1⟩, ⟨(Rd.of_own o_r9), hn, (own_nil o_r9), (own_cap o_r9).1⟩, ⟨(rdN _ 5), rfl, (fun _ => ⟨rfl, rfl⟩), (Nat.le_refl _)⟩, ⟨(rdN _ 3), rfl, (fun _ => ⟨rfl, rfl⟩), (Nat.le_refl _)⟩, ⟨(rdN _ 4), rfl, (fun _ => ⟨rfl, rfl⟩), (Nat.le_refl _)⟩, ⟨(rdN _ 1), rfl, (fun _ => ⟨rfl, rfl⟩), (Nat.le_refl _)⟩, ⟨(rdN _ 1), rfl, (fun _ => ⟨rfl, rfl⟩), (Nat.le_refl _)⟩⟩ (newB_w (by omega))).mono ?_
    rintro e w16 ⟨rfl, hb15⟩
    refine ⟨_, rfl, ?_⟩
    replace h_q2 := keep_below h_q2 hb15
    replace h_q10 := keep_below h_q10 hb15
    replace o_r8 := own_below o_r8 hb15
    replace o_r9 := own_below o_r9 hb15
    replace hB := hB.trans (hb15.mono hB.size)
    clear hb15
    intro a5 p5
    refine q_v p5.s rfl rfl rfl (g_not rfl p5.v ?_)
    intro a6 p6
    refine wpList_nil ?_
    have kc3 := (((Kps.nil a3).u p4).u p5).u p6
    replace s4 := kc3.k s4 rfl
    replace s5 := kc3.k s5 rfl
    replace s6 := kc3.k s6 rfl
    replace s16 := p6.v
    clear kc3
    refine hK14 _ _ ?_
    clear hK14
    cases hok : boOk (newB room ls)
    · replace s16 : a6.eval (.tmp 16) = .bool true := (s16).trans (congrArg (fun b => Value.bool (!b)) hok)
      refine c_true s16 ?_
      refine wp_seq_k fun K17 hK17 => ?_
      refine wp_region_lit ?_
      refine q_v p6.s rfl rfl rfl (g_build (cells := #[.int .i64 0, .slice none 0 0, .bool false, .slice none 0 0, .slice none 0 0, .slice none 0 0, .int .i64 0, .slice none 0 0, .slice none 0 0, .int .i64 0, .int .i64 0, .slice none 0 0]) rfl (arrB0 ) (by kernel_rfl) ?_)
      intro a7 p7
      refine q_eff rfl rfl ?_
      refine g_storeB rfl (p7.k s4 rfl) p7.v Try.sizeOf32 rfl rfl h_q2 rfl ?_
      intro w18 W_w18
      replace h_q2 := W_w18.here
      replace h_q10 := keep_wrote h_q10 W_w18 n_q2_q10
      replace o_r8 := own_wrote o_r8 W_w18 d_r8_q2
      replace o_r9 := own_wrote o_r9 W_w18 d_r9_q2
      replace hB := below_wrote hB hB.size W_w18 g_q2.le
      clear W_w18
      refine q_v p7.s rfl rfl rfl (g_assign rfl rfl ?_)
      intro a8 p8
      have s5 : a8.eval (.tmp 5) = .bool false := p8.v
      refine wpList_nil ?_
      replace s4 := p8.k (p7.k s4 rfl) rfl
      replace s6 := p8.k (p7.k s6 rfl) rfl
      refine hK17 _ _ ?_
      clear hK17
      refine wp_ret ?_
      try dsimp only [Exit.then, Exit.inBlock]
      refine ret2 p8.s Try.results27 (res_cell s4 h_q2 Try.isAgg32 Try.sizeOf32 rfl) (res_tmp s5) ?_
      rw [bdNew_no hok]
      exact ⟨⟨⟨none, 0, 0⟩, ⟨none, 0, 0⟩, ⟨none, 0, 0⟩, ⟨none, 0, 0⟩, ⟨none, 0, 0⟩, ⟨none, 0, 0⟩, ⟨none, 0, 0⟩⟩, rfl, ⟨World.ownsRow_nil _ _ _ _, World.ownsRow_nil _ _ _ _, World.ownsRow_nil _ _ _ _, World.ownsRow_nil _ _ _ _, World.ownsRow_nil _ _ _ _, World.ownsRow_nil _ _ _ _, World.ownsRow_nil _ _ _ _, (fun _ h => by cases h), (fun _ h => by cases h), (fun _ h => by cases h)⟩, hB⟩
    replace s16 : a6.eval (.tmp 16) = .bool false := (s16).trans (congrArg (fun b => Value.bool (!b)) hok)
    refine c_false s16 ?_
    refine wp_skip ?_
    refine hK13 _ _ ?_
    clear hK13
    refine wp_seq_k fun K19 hK19 => ?_
    refine wp_region_lit ?_
    refine q_v p6.s rfl rfl rfl (g_loadB rfl s6 Try.isAgg32 Try.sizeOf32 rfl h_q10 ?_)
    intro a7 p7
    refine q_eff rfl rfl ?_
    refine g_storeB rfl (p7.k s4 rfl) p7.v Try.sizeOf32 rfl rfl h_q2 rfl ?_
    intro w20 W_w20
    replace h_q2 := W_w20.here
    replace o_r8 := own_wrote o_r8 W_w20 d_r8_q2
    replace o_r9 := own_wrote o_r9 W_w20 d_r9_q2
    replace hB := below_wrote hB hB.size W_w20 g_q2.le
    clear W_w20
    refine q_v p7.s rfl rfl rfl (g_assign rfl rfl ?_)
    intro a8 p8
    have s5 : a8.eval (.tmp 5) = .bool true := p8.v
    refine wpList_nil ?_
    replace s4 := p8.k (p7.k s4 rfl) rfl
    refine hK19 _ _ ?_
    clear hK19
    refine wp_ret ?_
    try dsimp only [Exit.then, Exit.inBlock]
    refine ret2 p8.s Try.results27 (res_cell s4 h_q2 Try.isAgg32 Try.sizeOf32 rfl) (res_tmp s5) ?_
    rw [bdNew_yes hok]
    exact ⟨⟨⟨(some ⟨qm_r5_r8, 0, none⟩), 8, 8⟩, ⟨A_r9, n, c_r9⟩, ⟨none, 0, 0⟩, ⟨none, 0, 0⟩, ⟨none, 0, 0⟩, ⟨none, 0, 0⟩, ⟨none, 0, 0⟩⟩, rfl, ⟨o_r8, o_r9, World.ownsRow_nil _ _ _ _, World.ownsRow_nil _ _ _ _, World.ownsRow_nil _ _ _ _, World.ownsRow_nil _ _ _ _, World.ownsRow_nil _ _ _ _, (fun _ _ h => by cases h), (fun _ _ h => by cases h), (fun _ h => by cases h)⟩, hB⟩
end Go.Proofs.Ytoccapmoehdohaa
