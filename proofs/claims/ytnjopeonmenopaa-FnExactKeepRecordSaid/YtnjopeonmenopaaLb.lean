/- Contract: the reference's index of the record that goes first. No condition. -/
import Derived.Test.YtnjopeonmenopaaKeepLaw
import Derived.Test.YtnjopeonmenopaaFlowMem
namespace Go.Proofs.Ytnjopeonmenopaa
open Go.RowKit

theorem lbTo_a {zs : List ERecord} {p b : Int} {k : Nat} (hk : k < zs.length) (hb : lbTo zs p k = b) (h1 : zs[k].f1 < p) (h2 : b < 0) : lbTo zs p (k + 1) = ((k : Nat) : Int) := by
  subst hb
  unfold lbTo
  rw [show zs.getD k default = zs[k] from by simp [hk], if_pos ⟨h1, .inl h2⟩]
theorem lbTo_b {zs : List ERecord} {p : Int} {k m : Nat} (hk : k < zs.length) (hb : lbTo zs p k = ((m : Nat) : Int)) (hm : m < zs.length) (h1 : zs[k].f1 < p) (h2 : zs[k].f1 < zs[m].f1) : lbTo zs p (k + 1) = ((k : Nat) : Int) := by
  unfold lbTo
  rw [show zs.getD k default = zs[k] from by simp [hk], hb, show zs.getD (((m : Nat) : Int)).toNat default = zs[m] from by simp [hm], if_pos ⟨h1, .inr h2⟩]
theorem lbTo_c {zs : List ERecord} {p b : Int} {k : Nat} (hk : k < zs.length) (hb : lbTo zs p k = b) (h1 : ¬ zs[k].f1 < p) : lbTo zs p (k + 1) = b := by
  subst hb
  show (if _ then _ else _) = _
  rw [show zs.getD k default = zs[k] from by simp [hk], if_neg (fun h => h1 h.1)]
theorem lbTo_d {zs : List ERecord} {p : Int} {k m : Nat} (hk : k < zs.length) (hb : lbTo zs p k = ((m : Nat) : Int)) (hm : m < zs.length) (h2 : ¬ zs[k].f1 < zs[m].f1) : lbTo zs p (k + 1) = ((m : Nat) : Int) := by
  show (if _ then _ else _) = _
  rw [show zs.getD k default = zs[k] from by simp [hk], hb, show zs.getD (((m : Nat) : Int)).toNat default = zs[m] from by simp [hm], if_neg (fun h => by rcases h.2 with h3 | h3 <;> omega)]
theorem lbTo_lt {zs : List ERecord} {p : Int} {k m : Nat} (hk : k ≤ zs.length) (hb : lbTo zs p k = ((m : Nat) : Int)) (h0 : 0 < zs.length) : m < zs.length := by
  rcases lbTo_step (p := p) h0 k hk with ⟨h1, _⟩ | ⟨h1, hl, _⟩
  · omega
  · have : m = leastTo zs k := by omega
    rw [this]
    exact hl
set_option maxRecDepth 100000 in
set_option maxHeartbeats 4000000 in
theorem l05Least_at {A : Option Addr} {n c : Nat} {zs : List ERecord} {p v : Int} (w : World) (hn : zs.length = n) (hm : n ≤ 1048577) (hv : lbTo zs p n = v) (hr_z : Rd w 4 A n (zs.flatMap cRecord)) :
    Calls Try.prog 78 #[.slice A n c, .int .i64 p] w fun e w' => e = .returned (.int .i64 v) ∧ Below w.heap.size w w' := by
  subst hn
  refine enter 39 Try.func78 rfl rfl (Nat.le_of_ble_eq_true rfl) ?_
  intro a0 hs hargs
  have s0 : a0.eval (.tmp 0) = .slice A zs.length c := hargs 0 _ rfl
  have s1 : a0.eval (.tmp 1) = .int .i64 p := hargs 1 _ rfl
  clear hargs
  have hB : Below w.heap.size w w := Below.refl _ _
  refine wp_seq_k fun K1 hK1 => ?_
  refine wp_region_lit ?_
  refine q_val rfl rfl ?_
  refine g_assign rfl rfl ?_
  intro a1 p1
  have s4 : a1.eval (.tmp 4) = .int .i64 0 := p1.at hs (by decide)
  replace hs := p1.st hs
  refine wpList_nil ?_
  replace s0 : a1.eval (.tmp 0) = .slice A zs.length c := (p1.ne rfl).trans s0
  replace s1 : a1.eval (.tmp 1) = .int .i64 p := (p1.ne rfl).trans s1
  refine hK1 _ _ ?_
  clear hK1
  refine wp_seq_k fun K2 hK2 => ?_
  refine wp_region_lit ?_
  refine q_val rfl rfl ?_
  refine g_assign rfl rfl ?_
  intro a2 p2
  have s5 : a2.eval (.tmp 5) = .int .i64 (-1) := p2.at hs (by decide)
  replace hs := p2.st hs
  refine wpList_nil ?_
  replace s0 : a2.eval (.tmp 0) = .slice A zs.length c := (p2.ne rfl).trans s0
  replace s1 : a2.eval (.tmp 1) = .int .i64 p := (p2.ne rfl).trans s1
  replace s4 : a2.eval (.tmp 4) = .int .i64 0 := (p2.ne rfl).trans s4
  refine hK2 _ _ ?_
  clear hK2
  refine wp_seq_k fun K3 hK3 => ?_
  refine wp_seq_k fun K4 hK4 => ?_
  refine wp_region_lit ?_
  refine q_val rfl rfl ?_
  refine g_assign rfl rfl ?_
  intro a3 p3
  have s6 : a3.eval (.tmp 6) = .int .i64 0 := p3.at hs (by decide)
  replace hs := p3.st hs
  refine wpList_nil ?_
  replace s0 : a3.eval (.tmp 0) = .slice A zs.length c := (p3.ne rfl).trans s0
  replace s1 : a3.eval (.tmp 1) = .int .i64 p := (p3.ne rfl).trans s1
  replace s4 : a3.eval (.tmp 4) = .int .i64 0 := (p3.ne rfl).trans s4
  replace s5 : a3.eval (.tmp 5) = .int .i64 (-1) := (p3.ne rfl).trans s5
  refine hK4 _ _ ?_
  clear hK4
  refine wp_block ?_
  refine wp_loop (fun a wr => ∃ (k : Nat) (b : Int), (St 39 a) ∧ (a.eval (.tmp 0) = .slice A zs.length c) ∧ (a.eval (.tmp 1) = .int .i64 p) ∧ (a.eval (.tmp 4) = .int .i64 0) ∧ (a.eval (.tmp 5) = .int .i64 b) ∧ (a.eval (.tmp 6) = .int .i64 ((k : Nat) : Int)) ∧ (Below w.heap.size w wr) ∧ (k ≤ zs.length) ∧ (lbTo zs p k = b)) (fun a _ => zs.length - (intOf (a.eval (.tmp 6))).toNat) (⟨0, (-1), hs, s0, s1, s4, s5, s6, hB, Nat.zero_le _, rfl⟩) ?_
  intro a4 w6 hI
  obtain ⟨k, b, hs, s0, s1, s4, s5, s6, hB, hk, hb⟩ := hI
  have mu0 := s6
  by_cases hneg : b < 0
  · refine wp_seq_k fun K7 hK7 => ?_
    refine wp_seq_k fun K8 hK8 => ?_
    refine wp_region_lit ?_
    refine q_val rfl rfl ?_
    refine g_move rfl s6 ?_
    intro a5 p5
    have s7 : a5.eval (.tmp 7) = .int .i64 ((k : Nat) : Int) := p5.at hs (by decide)
    replace hs := p5.st hs
    refine q_val rfl rfl ?_
    refine g_move rfl ((p5.ne rfl).trans s0) ?_
    intro a6 p6
    have s8 : a6.eval (.tmp 8) = .slice A zs.length c := p6.at hs (by decide)
    replace hs := p6.st hs
    refine q_val rfl rfl ?_
    refine g_len (e := _) rfl Try.underlying47 s8 ?_
    intro a7 p7
    have s9 : a7.eval (.tmp 9) = .int .i64 ((zs.length : Nat) : Int) := p7.at hs (by decide)
    replace hs := p7.st hs
    refine q_val rfl rfl ?_
    refine g_lss rfl (((p7.ne rfl).trans (p6.ne rfl)).trans s7) s9 ?_
    intro a8 p8
    have s10 : a8.eval (.tmp 10) = .bool (decide (((k : Nat) : Int) < ((zs.length : Nat) : Int))) := p8.at hs (by decide)
    replace hs := p8.st hs
    refine wpList_nil ?_
    replace s0 : a8.eval (.tmp 0) = .slice A zs.length c := ((p8.ne rfl).trans ((p7.ne rfl).trans ((p6.ne rfl).trans (p5.ne rfl)))).trans s0
    replace s1 : a8.eval (.tmp 1) = .int .i64 p := ((p8.ne rfl).trans ((p7.ne rfl).trans ((p6.ne rfl).trans (p5.ne rfl)))).trans s1
    replace s4 : a8.eval (.tmp 4) = .int .i64 0 := ((p8.ne rfl).trans ((p7.ne rfl).trans ((p6.ne rfl).trans (p5.ne rfl)))).trans s4
    replace s5 : a8.eval (.tmp 5) = .int .i64 b := ((p8.ne rfl).trans ((p7.ne rfl).trans ((p6.ne rfl).trans (p5.ne rfl)))).trans s5
    replace s6 : a8.eval (.tmp 6) = .int .i64 ((k : Nat) : Int) := ((p8.ne rfl).trans ((p7.ne rfl).trans ((p6.ne rfl).trans (p5.ne rfl)))).trans s6
    refine hK8 _ _ ?_
    clear hK8
    by_cases hc9 : ((k : Nat) : Int) < ((zs.length : Nat) : Int)
    · replace s10 := s10.trans (congrArg Value.bool (decide_eq_true hc9))
      replace s10 : a8.eval (.tmp 10) = .bool true := s10
      refine c_true s10 ?_
      refine wp_skip ?_
      refine hK7 _ _ ?_
      clear hK7
      refine wp_seq_k fun K10 hK10 => ?_
      refine wp_block ?_
      refine wp_seq_k fun K11 hK11 => ?_
      have hlt : k < zs.length := by omega
      by_cases hp : zs[k].f1 < p
      · have hlt : k < zs.length := by omega
        obtain ⟨b16, o17, hA18, hl_hc19, hc19⟩ := Rd.get cRecord_len (hr_z.below hB) rfl (i := k) (by omega)
        refine wp_drawn (n := 39) [] [] [] (fun k_ v_ _wx => match k_ with | 0 => v_ = .slice A zs.length c | 1 => v_ = .int .i64 ((k : Nat) : Int) | 2 => v_ = .pointer (some ⟨b16, o17 + k * 4, none⟩) | 3 => v_ = .pointer (some ⟨b16, o17 + k * 4 + 1, none⟩) | 4 => v_ = .int .i64 (zs[k].f1) | 5 => v_ = .int .i64 p | 6 => v_ = .bool true | 7 => v_ = .bool true | 8 => v_ = .int .i64 b | 9 => v_ = .bool true | 10 => v_ = .bool true | 22 => v_ = .bool true | 23 => v_ = .bool true | _ => True) (by kernel_rfl) (by kernel_rfl) (by kernel_rfl) (by kernel_rfl) hs.size ?_ ?_ ?_
        · intro i v wa wb hb hr
          rcases i with _ | _ | _ | _ | _ | _ | _ | _ | _ | _ | _ | _ | _ | _ | _ | _ | _ | _ | _ | _ | _ | _ | _ | _ | i
          · exact hr
          · exact hr
          · exact hr
          · exact hr
          · exact hr
          · exact hr
          · exact hr
          · exact hr
          · exact hr
          · exact hr
          · exact hr
          · trivial
          · trivial
          · trivial
          · trivial
          · trivial
          · trivial
          · trivial
          · trivial
          · trivial
          · trivial
          · trivial
          · exact hr
          · exact hr
          · trivial
        · refine d_step rfl rfl ?_ (d_step rfl rfl ?_ (d_step rfl rfl ?_ (d_step rfl rfl ?_ (d_step rfl rfl ?_ (d_step rfl rfl ?_ (d_step rfl rfl ?_ (d_step rfl rfl ?_ (d_take rfl 7 true 20 rfl rfl rfl (fun v w h => h) ?_ (d_take rfl 7 true 20 rfl rfl rfl (fun v w h => h) ?_ (d_take rfl 7 true 20 rfl rfl rfl (fun v w h => h) ?_ (d_skip 10 false 23 rfl rfl rfl (fun v w h => Or.inl h) (fun w => trivial) (d_skip 10 false 23 rfl rfl rfl (fun v w h => Or.inl h) (fun w => trivial) (d_skip 10 false 23 rfl rfl rfl (fun v w h => Or.inl h) (fun w => trivial) (d_skip 10 false 23 rfl rfl rfl (fun v w h => Or.inl h) (fun w => trivial) (d_skip 10 false 23 rfl rfl rfl (fun v w h => Or.inl h) (fun w => trivial) (d_skip 10 false 23 rfl rfl rfl (fun v w h => Or.inl h) (fun w => trivial) (d_skip 10 false 23 rfl rfl rfl (fun v w h => Or.inl h) (fun w => trivial) (d_skip 10 false 23 rfl rfl rfl (fun v w h => Or.inl h) (fun w => trivial) (d_skip 10 false 23 rfl rfl rfl (fun v w h => Or.inl h) (fun w => trivial) (d_skip 10 false 23 rfl rfl rfl (fun v w h => Or.inl h) (fun w => trivial) (d_skip 10 false 23 rfl rfl rfl (fun v w h => Or.inl h) (fun w => trivial) (d_take rfl 7 true 20 rfl rfl rfl (fun v w h => h) ?_ (d_step rfl rfl ?_ (d_nil))))))))))))))))))))))))
          · intro xv_ wx ρ hρ hwx hd K hK
            have e0 : ρ (.tmp 0) = .slice A zs.length c := (hρ.inn 0 rfl).trans s0
            refine g_move rfl e0 ?_
            exact hK _ _ (Below.refl _ _) rfl
          · intro xv_ wx ρ hρ hwx hd K hK
            have e6 : ρ (.tmp 6) = .int .i64 ((k : Nat) : Int) := (hρ.inn 6 rfl).trans s6
            refine g_move rfl e6 ?_
            exact hK _ _ (Below.refl _ _) rfl
          · intro xv_ wx ρ hρ hwx hd K hK
            obtain r0 : xv_ 0 = .slice A zs.length c := hd 0 rfl
            have e13 : ρ (.tmp 13) = .slice A zs.length c := (hρ.out 0 13 rfl (by rw [hs.size]; decide) rfl).trans r0
            obtain r1 : xv_ 1 = .int .i64 ((k : Nat) : Int) := hd 1 rfl
            have e14 : ρ (.tmp 14) = .int .i64 ((k : Nat) : Int) := (hρ.out 1 14 rfl (by rw [hs.size]; decide) rfl).trans r1
            refine g_index (r := o17 + k * 4) (k := k) rfl (e13.trans (slice_at hA18)) e14 Try.underlying47 (fun w => Try.sizeOf26 w) (by omega) rfl ?_
            exact hK _ _ (Below.refl _ _) rfl
          · intro xv_ wx ρ hρ hwx hd K hK
            obtain r2 : xv_ 2 = .pointer (some ⟨b16, o17 + k * 4, none⟩) := hd 2 rfl
            have e15 : ρ (.tmp 15) = .pointer (some ⟨b16, o17 + k * 4, none⟩) := (hρ.out 2 15 rfl (by rw [hs.size]; decide) rfl).trans r2
            refine g_field (r := o17 + k * 4 + 1) rfl e15 Try.underlying26 rfl (fun w => Try.sizeOf3 w) rfl rfl ?_
            exact hK _ _ (Below.refl _ _) rfl
          · intro xv_ wx ρ hρ hwx hd K hK
            obtain r3 : xv_ 3 = .pointer (some ⟨b16, o17 + k * 4 + 1, none⟩) := hd 3 rfl
            have e16 : ρ (.tmp 16) = .pointer (some ⟨b16, o17 + k * 4 + 1, none⟩) := (hρ.out 3 16 rfl (by rw [hs.size]; decide) rfl).trans r3
            have hc19 := elem_below hc19 hwx hl_hc19
            refine g_load rfl e16 Try.isAgg3 (by first | exact hc19 1 _ (by decide) rfl | (rw [Nat.add_assoc]; exact hc19 1 _ (by decide) rfl)) ?_
            exact hK _ _ (Below.refl _ _) rfl
          · intro xv_ wx ρ hρ hwx hd K hK
            have e1 : ρ (.tmp 1) = .int .i64 p := (hρ.inn 1 rfl).trans s1
            refine g_move rfl e1 ?_
            exact hK _ _ (Below.refl _ _) rfl
          · intro xv_ wx ρ hρ hwx hd K hK
            obtain r4 : xv_ 4 = .int .i64 (zs[k].f1) := hd 4 rfl
            have e17 : ρ (.tmp 17) = .int .i64 (zs[k].f1) := (hρ.out 4 17 rfl (by rw [hs.size]; decide) rfl).trans r4
            obtain r5 : xv_ 5 = .int .i64 p := hd 5 rfl
            have e18 : ρ (.tmp 18) = .int .i64 p := (hρ.out 5 18 rfl (by rw [hs.size]; decide) rfl).trans r5
            refine g_lss rfl e17 e18 ?_
            exact hK _ _ (Below.refl _ _) (congrArg Value.bool (decide_eq_true hp))
          · intro xv_ wx ρ hρ hwx hd K hK
            obtain r6 : xv_ 6 = .bool true := hd 6 rfl
            have e19 : ρ (.tmp 19) = .bool true := (hρ.out 6 19 rfl (by rw [hs.size]; decide) rfl).trans r6
            refine g_move rfl e19 ?_
            exact hK _ _ (Below.refl _ _) rfl
          · intro xv_ wx ρ hρ hwx hd K hK
            have e5 : ρ (.tmp 5) = .int .i64 b := (hρ.inn 5 rfl).trans s5
            refine g_move rfl e5 ?_
            exact hK _ _ (Below.refl _ _) rfl
          · intro xv_ wx ρ hρ hwx hd K hK
            obtain r8 : xv_ 8 = .int .i64 b := hd 8 rfl
            have e21 : ρ (.tmp 21) = .int .i64 b := (hρ.out 8 21 rfl (by rw [hs.size]; decide) rfl).trans r8
            refine g_lss rfl e21 ((hρ.cst _)) ?_
            exact hK _ _ (Below.refl _ _) (congrArg Value.bool (decide_eq_true hneg))
          · intro xv_ wx ρ hρ hwx hd K hK
            obtain r9 : xv_ 9 = .bool true := hd 9 rfl
            have e22 : ρ (.tmp 22) = .bool true := (hρ.out 9 22 rfl (by rw [hs.size]; decide) rfl).trans r9
            refine g_move rfl e22 ?_
            exact hK _ _ (Below.refl _ _) rfl
          · intro xv_ wx ρ hρ hwx hd K hK
            obtain r10 : xv_ 10 = .bool true := hd 10 rfl
            have e23 : ρ (.tmp 23) = .bool true := (hρ.out 10 23 rfl (by rw [hs.size]; decide) rfl).trans r10
            refine g_pick_t rfl e23 ((hρ.cst _)) ?_
            exact hK _ _ (Below.refl _ _) rfl
          · intro xv_ wx ρ hρ hwx hd K hK
            obtain r7 : xv_ 7 = .bool true := hd 7 rfl
            have e20 : ρ (.tmp 20) = .bool true := (hρ.out 7 20 rfl (by rw [hs.size]; decide) rfl).trans r7
            obtain r22 : xv_ 22 = .bool true := hd 22 rfl
            have e35 : ρ (.tmp 35) = .bool true := (hρ.out 22 35 rfl (by rw [hs.size]; decide) rfl).trans r22
            refine g_pick_t rfl e20 e35 ?_
            exact hK _ _ (Below.refl _ _) rfl
        · intro x0_ w20 hb_w20 hr0
          obtain r0 : x0_ 0 = .slice A zs.length c := hr0 0 (by decide) rfl rfl
          obtain r1 : x0_ 1 = .int .i64 ((k : Nat) : Int) := hr0 1 (by decide) rfl rfl
          obtain r2 : x0_ 2 = .pointer (some ⟨b16, o17 + k * 4, none⟩) := hr0 2 (by decide) rfl rfl
          obtain r3 : x0_ 3 = .pointer (some ⟨b16, o17 + k * 4 + 1, none⟩) := hr0 3 (by decide) rfl rfl
          obtain r4 : x0_ 4 = .int .i64 (zs[k].f1) := hr0 4 (by decide) rfl rfl
          obtain r5 : x0_ 5 = .int .i64 p := hr0 5 (by decide) rfl rfl
          obtain r6 : x0_ 6 = .bool true := hr0 6 (by decide) rfl rfl
          obtain r7 : x0_ 7 = .bool true := hr0 7 (by decide) rfl rfl
          obtain r8 : x0_ 8 = .int .i64 b := hr0 8 (by decide) rfl rfl
          obtain r9 : x0_ 9 = .bool true := hr0 9 (by decide) rfl rfl
          obtain r10 : x0_ 10 = .bool true := hr0 10 (by decide) rfl rfl
          obtain r22 : x0_ 22 = .bool true := hr0 22 (by decide) rfl rfl
          obtain r23 : x0_ 23 = .bool true := hr0 23 (by decide) rfl rfl
          clear hr0
          replace hB := hB.trans (hb_w20.mono hB.size)
          clear hb_w20
          intro xv_ a9 hρ hsz hdf qx_ ql_ qk_ qlk_
          replace s0 : a9.eval (.tmp 0) = .slice A zs.length c := (hρ.inn 0 rfl).trans s0
          replace s1 : a9.eval (.tmp 1) = .int .i64 p := (hρ.inn 1 rfl).trans s1
          replace s4 : a9.eval (.tmp 4) = .int .i64 0 := (hρ.inn 4 rfl).trans s4
          replace s5 : a9.eval (.tmp 5) = .int .i64 b := (hρ.inn 5 rfl).trans s5
          replace s6 : a9.eval (.tmp 6) = .int .i64 ((k : Nat) : Int) := (hρ.inn 6 rfl).trans s6
          replace s10 : a9.eval (.tmp 10) = .bool true := (hρ.inn 10 rfl).trans s10
          have s36 : a9.eval (.tmp 36) = .bool true := (hρ.out 23 36 rfl (by rw [hs.size]; decide)).trans ((qx_ 23 (by decide) rfl rfl).trans r23)
          replace hs : St 39 a9 := ⟨hsz.trans hs.size, hdf.trans hs.nodef⟩
          clear hρ hsz hdf qx_ ql_ qk_ qlk_
          refine hK11 _ _ ?_
          clear hK11
          refine c_true s36 ?_
          refine wp_region_lit ?_
          refine q_val rfl rfl ?_
          refine g_move rfl s6 ?_
          intro a10 p10
          have s37 : a10.eval (.tmp 37) = .int .i64 ((k : Nat) : Int) := p10.at hs (by decide)
          replace hs := p10.st hs
          refine q_val rfl rfl ?_
          refine g_assign rfl s37 ?_
          intro a11 p11
          have s5 : a11.eval (.tmp 5) = .int .i64 ((k : Nat) : Int) := p11.at hs (by decide)
          replace hs := p11.st hs
          refine wpList_nil ?_
          replace s0 : a11.eval (.tmp 0) = .slice A zs.length c := ((p11.ne rfl).trans (p10.ne rfl)).trans s0
          replace s1 : a11.eval (.tmp 1) = .int .i64 p := ((p11.ne rfl).trans (p10.ne rfl)).trans s1
          replace s4 : a11.eval (.tmp 4) = .int .i64 0 := ((p11.ne rfl).trans (p10.ne rfl)).trans s4
          replace s6 : a11.eval (.tmp 6) = .int .i64 ((k : Nat) : Int) := ((p11.ne rfl).trans (p10.ne rfl)).trans s6
          replace s10 : a11.eval (.tmp 10) = .bool true := ((p11.ne rfl).trans (p10.ne rfl)).trans s10
          replace s36 : a11.eval (.tmp 36) = .bool true := ((p11.ne rfl).trans (p10.ne rfl)).trans s36
          refine hK10 _ _ ?_
          clear hK10
          refine wp_region_lit ?_
          refine q_val rfl rfl ?_
          refine g_move rfl s6 ?_
          intro a12 p12
          have s11 : a12.eval (.tmp 11) = .int .i64 ((k : Nat) : Int) := p12.at hs (by decide)
          replace hs := p12.st hs
          refine q_val rfl rfl ?_
          refine g_add (r := ((k + 1 : Nat) : Int)) rfl s11 rfl (by omega) (by omega) ?_
          intro a13 p13
          have s12 : a13.eval (.tmp 12) = .int .i64 ((k + 1 : Nat) : Int) := p13.at hs (by decide)
          replace hs := p13.st hs
          refine q_val rfl rfl ?_
          refine g_assign rfl s12 ?_
          intro a14 p14
          have s6 : a14.eval (.tmp 6) = .int .i64 ((k + 1 : Nat) : Int) := p14.at hs (by decide)
          replace hs := p14.st hs
          refine wpList_nil ?_
          replace s0 : a14.eval (.tmp 0) = .slice A zs.length c := ((p14.ne rfl).trans ((p13.ne rfl).trans (p12.ne rfl))).trans s0
          replace s1 : a14.eval (.tmp 1) = .int .i64 p := ((p14.ne rfl).trans ((p13.ne rfl).trans (p12.ne rfl))).trans s1
          replace s4 : a14.eval (.tmp 4) = .int .i64 0 := ((p14.ne rfl).trans ((p13.ne rfl).trans (p12.ne rfl))).trans s4
          replace s5 : a14.eval (.tmp 5) = .int .i64 ((k : Nat) : Int) := ((p14.ne rfl).trans ((p13.ne rfl).trans (p12.ne rfl))).trans s5
          replace s10 : a14.eval (.tmp 10) = .bool true := ((p14.ne rfl).trans ((p13.ne rfl).trans (p12.ne rfl))).trans s10
          replace s36 : a14.eval (.tmp 36) = .bool true := ((p14.ne rfl).trans ((p13.ne rfl).trans (p12.ne rfl))).trans s36
          refine show _ ∧ _ from ⟨⟨k + 1, ((k : Nat) : Int), hs, s0, s1, s4, s5, s6, hB, by omega, lbTo_a hlt hb hp hneg⟩, ?_⟩
          show zs.length - (intOf (a14.eval (.tmp 6))).toNat < zs.length - (intOf (a4.eval (.tmp 6))).toNat
          rw [s6, mu0]
          simp only [intOf]
          omega
      · have hlt : k < zs.length := by omega
        obtain ⟨b21, o22, hA23, hl_hc24, hc24⟩ := Rd.get cRecord_len (hr_z.below hB) rfl (i := k) (by omega)
        refine wp_drawn (n := 39) [] [] [] (fun k_ v_ _wx => match k_ with | 0 => v_ = .slice A zs.length c | 1 => v_ = .int .i64 ((k : Nat) : Int) | 2 => v_ = .pointer (some ⟨b21, o22 + k * 4, none⟩) | 3 => v_ = .pointer (some ⟨b21, o22 + k * 4 + 1, none⟩) | 4 => v_ = .int .i64 (zs[k].f1) | 5 => v_ = .int .i64 p | 6 => v_ = .bool false | 7 => v_ = .bool false | 10 => v_ = undef | 23 => v_ = .bool false | _ => True) (by kernel_rfl) (by kernel_rfl) (by kernel_rfl) (by kernel_rfl) hs.size ?_ ?_ ?_
        · intro i v wa wb hb hr
          rcases i with _ | _ | _ | _ | _ | _ | _ | _ | _ | _ | _ | _ | _ | _ | _ | _ | _ | _ | _ | _ | _ | _ | _ | _ | i
          · exact hr
          · exact hr
          · exact hr
          · exact hr
          · exact hr
          · exact hr
          · exact hr
          · exact hr
          · trivial
          · trivial
          · exact hr
          · trivial
          · trivial
          · trivial
          · trivial
          · trivial
          · trivial
          · trivial
          · trivial
          · trivial
          · trivial
          · trivial
          · trivial
          · exact hr
          · trivial
        · refine d_step rfl rfl ?_ (d_step rfl rfl ?_ (d_step rfl rfl ?_ (d_step rfl rfl ?_ (d_step rfl rfl ?_ (d_step rfl rfl ?_ (d_step rfl rfl ?_ (d_step rfl rfl ?_ (d_skip 7 true 20 rfl rfl rfl (fun v w h => Or.inl h) (fun w => trivial) (d_skip 7 true 20 rfl rfl rfl (fun v w h => Or.inl h) (fun w => trivial) (d_skip 7 true 20 rfl rfl rfl (fun v w h => Or.inl h) (fun w => rfl) (d_skip 10 false 23 rfl rfl rfl (fun v w h => Or.inr h) (fun w => trivial) (d_skip 10 false 23 rfl rfl rfl (fun v w h => Or.inr h) (fun w => trivial) (d_skip 10 false 23 rfl rfl rfl (fun v w h => Or.inr h) (fun w => trivial) (d_skip 10 false 23 rfl rfl rfl (fun v w h => Or.inr h) (fun w => trivial) (d_skip 10 false 23 rfl rfl rfl (fun v w h => Or.inr h) (fun w => trivial) (d_skip 10 false 23 rfl rfl rfl (fun v w h => Or.inr h) (fun w => trivial) (d_skip 10 false 23 rfl rfl rfl (fun v w h => Or.inr h) (fun w => trivial) (d_skip 10 false 23 rfl rfl rfl (fun v w h => Or.inr h) (fun w => trivial) (d_skip 10 false 23 rfl rfl rfl (fun v w h => Or.inr h) (fun w => trivial) (d_skip 10 false 23 rfl rfl rfl (fun v w h => Or.inr h) (fun w => trivial) (d_skip 10 false 23 rfl rfl rfl (fun v w h => Or.inr h) (fun w => trivial) (d_skip 7 true 20 rfl rfl rfl (fun v w h => Or.inl h) (fun w => trivial) (d_step rfl rfl ?_ (d_nil))))))))))))))))))))))))
          · intro xv_ wx ρ hρ hwx hd K hK
            have e0 : ρ (.tmp 0) = .slice A zs.length c := (hρ.inn 0 rfl).trans s0
            refine g_move rfl e0 ?_
            exact hK _ _ (Below.refl _ _) rfl
          · intro xv_ wx ρ hρ hwx hd K hK
            have e6 : ρ (.tmp 6) = .int .i64 ((k : Nat) : Int) := (hρ.inn 6 rfl).trans s6
            refine g_move rfl e6 ?_
            exact hK _ _ (Below.refl _ _) rfl
          · intro xv_ wx ρ hρ hwx hd K hK
            obtain r0 : xv_ 0 = .slice A zs.length c := hd 0 rfl
            have e13 : ρ (.tmp 13) = .slice A zs.length c := (hρ.out 0 13 rfl (by rw [hs.size]; decide) rfl).trans r0
            obtain r1 : xv_ 1 = .int .i64 ((k : Nat) : Int) := hd 1 rfl
            have e14 : ρ (.tmp 14) = .int .i64 ((k : Nat) : Int) := (hρ.out 1 14 rfl (by rw [hs.size]; decide) rfl).trans r1
            refine g_index (r := o22 + k * 4) (k := k) rfl (e13.trans (slice_at hA23)) e14 Try.underlying47 (fun w => Try.sizeOf26 w) (by omega) rfl ?_
            exact hK _ _ (Below.refl _ _) rfl
          · intro xv_ wx ρ hρ hwx hd K hK
            obtain r2 : xv_ 2 = .pointer (some ⟨b21, o22 + k * 4, none⟩) := hd 2 rfl
            have e15 : ρ (.tmp 15) = .pointer (some ⟨b21, o22 + k * 4, none⟩) := (hρ.out 2 15 rfl (by rw [hs.size]; decide) rfl).trans r2
            refine g_field (r := o22 + k * 4 + 1) rfl e15 Try.underlying26 rfl (fun w => Try.sizeOf3 w) rfl rfl ?_
            exact hK _ _ (Below.refl _ _) rfl
          · intro xv_ wx ρ hρ hwx hd K hK
            obtain r3 : xv_ 3 = .pointer (some ⟨b21, o22 + k * 4 + 1, none⟩) := hd 3 rfl
            have e16 : ρ (.tmp 16) = .pointer (some ⟨b21, o22 + k * 4 + 1, none⟩) := (hρ.out 3 16 rfl (by rw [hs.size]; decide) rfl).trans r3
            have hc24 := elem_below hc24 hwx hl_hc24
            refine g_load rfl e16 Try.isAgg3 (by first | exact hc24 1 _ (by decide) rfl | (rw [Nat.add_assoc]; exact hc24 1 _ (by decide) rfl)) ?_
            exact hK _ _ (Below.refl _ _) rfl
          · intro xv_ wx ρ hρ hwx hd K hK
            have e1 : ρ (.tmp 1) = .int .i64 p := (hρ.inn 1 rfl).trans s1
            refine g_move rfl e1 ?_
            exact hK _ _ (Below.refl _ _) rfl
          · intro xv_ wx ρ hρ hwx hd K hK
            obtain r4 : xv_ 4 = .int .i64 (zs[k].f1) := hd 4 rfl
            have e17 : ρ (.tmp 17) = .int .i64 (zs[k].f1) := (hρ.out 4 17 rfl (by rw [hs.size]; decide) rfl).trans r4
            obtain r5 : xv_ 5 = .int .i64 p := hd 5 rfl
            have e18 : ρ (.tmp 18) = .int .i64 p := (hρ.out 5 18 rfl (by rw [hs.size]; decide) rfl).trans r5
            refine g_lss rfl e17 e18 ?_
            exact hK _ _ (Below.refl _ _) (congrArg Value.bool (decide_eq_false hp))
          · intro xv_ wx ρ hρ hwx hd K hK
            obtain r6 : xv_ 6 = .bool false := hd 6 rfl
            have e19 : ρ (.tmp 19) = .bool false := (hρ.out 6 19 rfl (by rw [hs.size]; decide) rfl).trans r6
            refine g_move rfl e19 ?_
            exact hK _ _ (Below.refl _ _) rfl
          · intro xv_ wx ρ hρ hwx hd K hK
            obtain r7 : xv_ 7 = .bool false := hd 7 rfl
            have e20 : ρ (.tmp 20) = .bool false := (hρ.out 7 20 rfl (by rw [hs.size]; decide) rfl).trans r7
            refine g_pick_f rfl e20 ((hρ.cst _)) ?_
            exact hK _ _ (Below.refl _ _) rfl
        · intro x0_ w25 hb_w25 hr0
          obtain r0 : x0_ 0 = .slice A zs.length c := hr0 0 (by decide) rfl rfl
          obtain r1 : x0_ 1 = .int .i64 ((k : Nat) : Int) := hr0 1 (by decide) rfl rfl
          obtain r2 : x0_ 2 = .pointer (some ⟨b21, o22 + k * 4, none⟩) := hr0 2 (by decide) rfl rfl
          obtain r3 : x0_ 3 = .pointer (some ⟨b21, o22 + k * 4 + 1, none⟩) := hr0 3 (by decide) rfl rfl
          obtain r4 : x0_ 4 = .int .i64 (zs[k].f1) := hr0 4 (by decide) rfl rfl
          obtain r5 : x0_ 5 = .int .i64 p := hr0 5 (by decide) rfl rfl
          obtain r6 : x0_ 6 = .bool false := hr0 6 (by decide) rfl rfl
          obtain r7 : x0_ 7 = .bool false := hr0 7 (by decide) rfl rfl
          obtain r23 : x0_ 23 = .bool false := hr0 23 (by decide) rfl rfl
          clear hr0
          replace hB := hB.trans (hb_w25.mono hB.size)
          clear hb_w25
          intro xv_ a9 hρ hsz hdf qx_ ql_ qk_ qlk_
          replace s0 : a9.eval (.tmp 0) = .slice A zs.length c := (hρ.inn 0 rfl).trans s0
          replace s1 : a9.eval (.tmp 1) = .int .i64 p := (hρ.inn 1 rfl).trans s1
          replace s4 : a9.eval (.tmp 4) = .int .i64 0 := (hρ.inn 4 rfl).trans s4
          replace s5 : a9.eval (.tmp 5) = .int .i64 b := (hρ.inn 5 rfl).trans s5
          replace s6 : a9.eval (.tmp 6) = .int .i64 ((k : Nat) : Int) := (hρ.inn 6 rfl).trans s6
          replace s10 : a9.eval (.tmp 10) = .bool true := (hρ.inn 10 rfl).trans s10
          have s36 : a9.eval (.tmp 36) = .bool false := (hρ.out 23 36 rfl (by rw [hs.size]; decide)).trans ((qx_ 23 (by decide) rfl rfl).trans r23)
          replace hs : St 39 a9 := ⟨hsz.trans hs.size, hdf.trans hs.nodef⟩
          clear hρ hsz hdf qx_ ql_ qk_ qlk_
          refine hK11 _ _ ?_
          clear hK11
          refine c_false s36 ?_
          refine wp_skip ?_
          refine hK10 _ _ ?_
          clear hK10
          refine wp_region_lit ?_
          refine q_val rfl rfl ?_
          refine g_move rfl s6 ?_
          intro a10 p10
          have s11 : a10.eval (.tmp 11) = .int .i64 ((k : Nat) : Int) := p10.at hs (by decide)
          replace hs := p10.st hs
          refine q_val rfl rfl ?_
          refine g_add (r := ((k + 1 : Nat) : Int)) rfl s11 rfl (by omega) (by omega) ?_
          intro a11 p11
          have s12 : a11.eval (.tmp 12) = .int .i64 ((k + 1 : Nat) : Int) := p11.at hs (by decide)
          replace hs := p11.st hs
          refine q_val rfl rfl ?_
          refine g_assign rfl s12 ?_
          intro a12 p12
          have s6 : a12.eval (.tmp 6) = .int .i64 ((k + 1 : Nat) : Int) := p12.at hs (by decide)
          replace hs := p12.st hs
          refine wpList_nil ?_
          replace s0 : a12.eval (.tmp 0) = .slice A zs.length c := ((p12.ne rfl).trans ((p11.ne rfl).trans (p10.ne rfl))).trans s0
          replace s1 : a12.eval (.tmp 1) = .int .i64 p := ((p12.ne rfl).trans ((p11.ne rfl).trans (p10.ne rfl))).trans s1
          replace s4 : a12.eval (.tmp 4) = .int .i64 0 := ((p12.ne rfl).trans ((p11.ne rfl).trans (p10.ne rfl))).trans s4
          replace s5 : a12.eval (.tmp 5) = .int .i64 b := ((p12.ne rfl).trans ((p11.ne rfl).trans (p10.ne rfl))).trans s5
          replace s10 : a12.eval (.tmp 10) = .bool true := ((p12.ne rfl).trans ((p11.ne rfl).trans (p10.ne rfl))).trans s10
          replace s36 : a12.eval (.tmp 36) = .bool false := ((p12.ne rfl).trans ((p11.ne rfl).trans (p10.ne rfl))).trans s36
          refine show _ ∧ _ from ⟨⟨k + 1, b, hs, s0, s1, s4, s5, s6, hB, by omega, lbTo_c hlt hb hp⟩, ?_⟩
          show zs.length - (intOf (a12.eval (.tmp 6))).toNat < zs.length - (intOf (a4.eval (.tmp 6))).toNat
          rw [s6, mu0]
          simp only [intOf]
          omega
    · replace s10 := s10.trans (congrArg Value.bool (decide_eq_false hc9))
      replace s10 : a8.eval (.tmp 10) = .bool false := s10
      refine c_false s10 ?_
      refine wp_exit ?_
      refine hK3 _ _ ?_
      clear hK3
      refine wp_seq_k fun K26 hK26 => ?_
      refine wp_region_lit ?_
      refine q_val rfl rfl ?_
      refine g_move rfl s5 ?_
      intro a9 p9
      have s38 : a9.eval (.tmp 38) = .int .i64 b := p9.at hs (by decide)
      replace hs := p9.st hs
      refine q_val rfl rfl ?_
      refine g_assign rfl s38 ?_
      intro a10 p10
      have s4 : a10.eval (.tmp 4) = .int .i64 b := p10.at hs (by decide)
      replace hs := p10.st hs
      refine wpList_nil ?_
      refine hK26 _ _ ?_
      clear hK26
      refine wp_ret ?_
      try dsimp only [Exit.then, Exit.inBlock]
      refine ret1 hs Try.results78 (res_tmp s4) ?_
      have hkz : k = zs.length := by omega
      subst hkz
      exact ⟨by rw [hb] at hv; rw [hv], hB⟩
  · obtain ⟨m, rfl⟩ := Int.eq_ofNat_of_zero_le (show 0 ≤ b by omega)
    refine wp_seq_k fun K27 hK27 => ?_
    refine wp_seq_k fun K28 hK28 => ?_
    refine wp_region_lit ?_
    refine q_val rfl rfl ?_
    refine g_move rfl s6 ?_
    intro a5 p5
    have s7 : a5.eval (.tmp 7) = .int .i64 ((k : Nat) : Int) := p5.at hs (by decide)
    replace hs := p5.st hs
    refine q_val rfl rfl ?_
    refine g_move rfl ((p5.ne rfl).trans s0) ?_
    intro a6 p6
    have s8 : a6.eval (.tmp 8) = .slice A zs.length c := p6.at hs (by decide)
    replace hs := p6.st hs
    refine q_val rfl rfl ?_
    refine g_len (e := _) rfl Try.underlying47 s8 ?_
    intro a7 p7
    have s9 : a7.eval (.tmp 9) = .int .i64 ((zs.length : Nat) : Int) := p7.at hs (by decide)
    replace hs := p7.st hs
    refine q_val rfl rfl ?_
    refine g_lss rfl (((p7.ne rfl).trans (p6.ne rfl)).trans s7) s9 ?_
    intro a8 p8
    have s10 : a8.eval (.tmp 10) = .bool (decide (((k : Nat) : Int) < ((zs.length : Nat) : Int))) := p8.at hs (by decide)
    replace hs := p8.st hs
    refine wpList_nil ?_
    replace s0 : a8.eval (.tmp 0) = .slice A zs.length c := ((p8.ne rfl).trans ((p7.ne rfl).trans ((p6.ne rfl).trans (p5.ne rfl)))).trans s0
    replace s1 : a8.eval (.tmp 1) = .int .i64 p := ((p8.ne rfl).trans ((p7.ne rfl).trans ((p6.ne rfl).trans (p5.ne rfl)))).trans s1
    replace s4 : a8.eval (.tmp 4) = .int .i64 0 := ((p8.ne rfl).trans ((p7.ne rfl).trans ((p6.ne rfl).trans (p5.ne rfl)))).trans s4
    replace s5 : a8.eval (.tmp 5) = .int .i64 ((m : Nat) : Int) := ((p8.ne rfl).trans ((p7.ne rfl).trans ((p6.ne rfl).trans (p5.ne rfl)))).trans s5
    replace s6 : a8.eval (.tmp 6) = .int .i64 ((k : Nat) : Int) := ((p8.ne rfl).trans ((p7.ne rfl).trans ((p6.ne rfl).trans (p5.ne rfl)))).trans s6
    refine hK28 _ _ ?_
    clear hK28
    by_cases hc29 : ((k : Nat) : Int) < ((zs.length : Nat) : Int)
    · replace s10 := s10.trans (congrArg Value.bool (decide_eq_true hc29))
      replace s10 : a8.eval (.tmp 10) = .bool true := s10
      refine c_true s10 ?_
      refine wp_skip ?_
      refine hK27 _ _ ?_
      clear hK27
      refine wp_seq_k fun K30 hK30 => ?_
      refine wp_block ?_
      refine wp_seq_k fun K31 hK31 => ?_
      have hlt : k < zs.length := by omega
      have hml : m < zs.length := lbTo_lt hk hb (by omega)
      by_cases hp : zs[k].f1 < p
      · have hlt : k < zs.length := by omega
        have hml : m < zs.length := lbTo_lt hk hb (by omega)
        obtain ⟨b36, o37, hA38, hl_hc39, hc39⟩ := Rd.get cRecord_len (hr_z.below hB) rfl (i := k) (by omega)
        obtain ⟨b40, o41, hA42, hl_hc43, hc43⟩ := Rd.get cRecord_len (hr_z.below hB) rfl (i := k) (by omega)
        obtain ⟨b44, o45, hA46, hl_hc47, hc47⟩ := Rd.get cRecord_len (hr_z.below hB) rfl (i := m) (by omega)
        refine wp_drawn (n := 39) [] [] [] (fun k_ v_ _wx => match k_ with | 0 => v_ = .slice A zs.length c | 1 => v_ = .int .i64 ((k : Nat) : Int) | 2 => v_ = .pointer (some ⟨b36, o37 + k * 4, none⟩) | 3 => v_ = .pointer (some ⟨b36, o37 + k * 4 + 1, none⟩) | 4 => v_ = .int .i64 (zs[k].f1) | 5 => v_ = .int .i64 p | 6 => v_ = .bool true | 7 => v_ = .bool true | 8 => v_ = .int .i64 ((m : Nat) : Int) | 9 => v_ = .bool false | 10 => v_ = .bool false | 11 => v_ = .slice A zs.length c | 12 => v_ = .int .i64 ((k : Nat) : Int) | 13 => v_ = .pointer (some ⟨b40, o41 + k * 4, none⟩) | 14 => v_ = .pointer (some ⟨b40, o41 + k * 4 + 1, none⟩) | 15 => v_ = .int .i64 (zs[k].f1) | 16 => v_ = .slice A zs.length c | 17 => v_ = .int .i64 ((m : Nat) : Int) | 18 => v_ = .pointer (some ⟨b44, o45 + m * 4, none⟩) | 19 => v_ = .pointer (some ⟨b44, o45 + m * 4 + 1, none⟩) | 20 => v_ = .int .i64 (zs[m].f1) | 21 => v_ = .bool (decide (zs[k].f1 < zs[m].f1)) | 22 => v_ = .bool (decide (zs[k].f1 < zs[m].f1)) | 23 => v_ = .bool (decide (zs[k].f1 < zs[m].f1)) | _ => True) (by kernel_rfl) (by kernel_rfl) (by kernel_rfl) (by kernel_rfl) hs.size ?_ ?_ ?_
        · intro i v wa wb hb hr
          rcases i with _ | _ | _ | _ | _ | _ | _ | _ | _ | _ | _ | _ | _ | _ | _ | _ | _ | _ | _ | _ | _ | _ | _ | _ | i
          · exact hr
          · exact hr
          · exact hr
          · exact hr
          · exact hr
          · exact hr
          · exact hr
          · exact hr
          · exact hr
          · exact hr
          · exact hr
          · exact hr
          · exact hr
          · exact hr
          · exact hr
          · exact hr
          · exact hr
          · exact hr
          · exact hr
          · exact hr
          · exact hr
          · exact hr
          · exact hr
          · exact hr
          · trivial
        · refine d_step rfl rfl ?_ (d_step rfl rfl ?_ (d_step rfl rfl ?_ (d_step rfl rfl ?_ (d_step rfl rfl ?_ (d_step rfl rfl ?_ (d_step rfl rfl ?_ (d_step rfl rfl ?_ (d_take rfl 7 true 20 rfl rfl rfl (fun v w h => h) ?_ (d_take rfl 7 true 20 rfl rfl rfl (fun v w h => h) ?_ (d_take rfl 7 true 20 rfl rfl rfl (fun v w h => h) ?_ (d_take rfl 10 false 23 rfl rfl rfl (fun v w h => h) ?_ (d_take rfl 10 false 23 rfl rfl rfl (fun v w h => h) ?_ (d_take rfl 10 false 23 rfl rfl rfl (fun v w h => h) ?_ (d_take rfl 10 false 23 rfl rfl rfl (fun v w h => h) ?_ (d_take rfl 10 false 23 rfl rfl rfl (fun v w h => h) ?_ (d_take rfl 10 false 23 rfl rfl rfl (fun v w h => h) ?_ (d_take rfl 10 false 23 rfl rfl rfl (fun v w h => h) ?_ (d_take rfl 10 false 23 rfl rfl rfl (fun v w h => h) ?_ (d_take rfl 10 false 23 rfl rfl rfl (fun v w h => h) ?_ (d_take rfl 10 false 23 rfl rfl rfl (fun v w h => h) ?_ (d_take rfl 10 false 23 rfl rfl rfl (fun v w h => h) ?_ (d_take rfl 7 true 20 rfl rfl rfl (fun v w h => h) ?_ (d_step rfl rfl ?_ (d_nil))))))))))))))))))))))))
          · intro xv_ wx ρ hρ hwx hd K hK
            have e0 : ρ (.tmp 0) = .slice A zs.length c := (hρ.inn 0 rfl).trans s0
            refine g_move rfl e0 ?_
            exact hK _ _ (Below.refl _ _) rfl
          · intro xv_ wx ρ hρ hwx hd K hK
            have e6 : ρ (.tmp 6) = .int .i64 ((k : Nat) : Int) := (hρ.inn 6 rfl).trans s6
            refine g_move rfl e6 ?_
            exact hK _ _ (Below.refl _ _) rfl
          · intro xv_ wx ρ hρ hwx hd K hK
            obtain r0 : xv_ 0 = .slice A zs.length c := hd 0 rfl
            have e13 : ρ (.tmp 13) = .slice A zs.length c := (hρ.out 0 13 rfl (by rw [hs.size]; decide) rfl).trans r0
            obtain r1 : xv_ 1 = .int .i64 ((k : Nat) : Int) := hd 1 rfl
            have e14 : ρ (.tmp 14) = .int .i64 ((k : Nat) : Int) := (hρ.out 1 14 rfl (by rw [hs.size]; decide) rfl).trans r1
            refine g_index (r := o37 + k * 4) (k := k) rfl (e13.trans (slice_at hA38)) e14 Try.underlying47 (fun w => Try.sizeOf26 w) (by omega) rfl ?_
            exact hK _ _ (Below.refl _ _) rfl
          · intro xv_ wx ρ hρ hwx hd K hK
            obtain r2 : xv_ 2 = .pointer (some ⟨b36, o37 + k * 4, none⟩) := hd 2 rfl
            have e15 : ρ (.tmp 15) = .pointer (some ⟨b36, o37 + k * 4, none⟩) := (hρ.out 2 15 rfl (by rw [hs.size]; decide) rfl).trans r2
            refine g_field (r := o37 + k * 4 + 1) rfl e15 Try.underlying26 rfl (fun w => Try.sizeOf3 w) rfl rfl ?_
            exact hK _ _ (Below.refl _ _) rfl
          · intro xv_ wx ρ hρ hwx hd K hK
            obtain r3 : xv_ 3 = .pointer (some ⟨b36, o37 + k * 4 + 1, none⟩) := hd 3 rfl
            have e16 : ρ (.tmp 16) = .pointer (some ⟨b36, o37 + k * 4 + 1, none⟩) := (hρ.out 3 16 rfl (by rw [hs.size]; decide) rfl).trans r3
            have hc39 := elem_below hc39 hwx hl_hc39
            refine g_load rfl e16 Try.isAgg3 (by first | exact hc39 1 _ (by decide) rfl | (rw [Nat.add_assoc]; exact hc39 1 _ (by decide) rfl)) ?_
            exact hK _ _ (Below.refl _ _) rfl
          · intro xv_ wx ρ hρ hwx hd K hK
            have e1 : ρ (.tmp 1) = .int .i64 p := (hρ.inn 1 rfl).trans s1
            refine g_move rfl e1 ?_
            exact hK _ _ (Below.refl _ _) rfl
          · intro xv_ wx ρ hρ hwx hd K hK
            obtain r4 : xv_ 4 = .int .i64 (zs[k].f1) := hd 4 rfl
            have e17 : ρ (.tmp 17) = .int .i64 (zs[k].f1) := (hρ.out 4 17 rfl (by rw [hs.size]; decide) rfl).trans r4
            obtain r5 : xv_ 5 = .int .i64 p := hd 5 rfl
            have e18 : ρ (.tmp 18) = .int .i64 p := (hρ.out 5 18 rfl (by rw [hs.size]; decide) rfl).trans r5
            refine g_lss rfl e17 e18 ?_
            exact hK _ _ (Below.refl _ _) (congrArg Value.bool (decide_eq_true hp))
          · intro xv_ wx ρ hρ hwx hd K hK
            obtain r6 : xv_ 6 = .bool true := hd 6 rfl
            have e19 : ρ (.tmp 19) = .bool true := (hρ.out 6 19 rfl (by rw [hs.size]; decide) rfl).trans r6
            refine g_move rfl e19 ?_
            exact hK _ _ (Below.refl _ _) rfl
          · intro xv_ wx ρ hρ hwx hd K hK
            have e5 : ρ (.tmp 5) = .int .i64 ((m : Nat) : Int) := (hρ.inn 5 rfl).trans s5
            refine g_move rfl e5 ?_
            exact hK _ _ (Below.refl _ _) rfl
          · intro xv_ wx ρ hρ hwx hd K hK
            obtain r8 : xv_ 8 = .int .i64 ((m : Nat) : Int) := hd 8 rfl
            have e21 : ρ (.tmp 21) = .int .i64 ((m : Nat) : Int) := (hρ.out 8 21 rfl (by rw [hs.size]; decide) rfl).trans r8
            refine g_lss rfl e21 ((hρ.cst _)) ?_
            exact hK _ _ (Below.refl _ _) (congrArg Value.bool (decide_eq_false (by omega)))
          · intro xv_ wx ρ hρ hwx hd K hK
            obtain r9 : xv_ 9 = .bool false := hd 9 rfl
            have e22 : ρ (.tmp 22) = .bool false := (hρ.out 9 22 rfl (by rw [hs.size]; decide) rfl).trans r9
            refine g_move rfl e22 ?_
            exact hK _ _ (Below.refl _ _) rfl
          · intro xv_ wx ρ hρ hwx hd K hK
            have e0 : ρ (.tmp 0) = .slice A zs.length c := (hρ.inn 0 rfl).trans s0
            refine g_move rfl e0 ?_
            exact hK _ _ (Below.refl _ _) rfl
          · intro xv_ wx ρ hρ hwx hd K hK
            have e6 : ρ (.tmp 6) = .int .i64 ((k : Nat) : Int) := (hρ.inn 6 rfl).trans s6
            refine g_move rfl e6 ?_
            exact hK _ _ (Below.refl _ _) rfl
          · intro xv_ wx ρ hρ hwx hd K hK
            obtain r11 : xv_ 11 = .slice A zs.length c := hd 11 rfl
            have e24 : ρ (.tmp 24) = .slice A zs.length c := (hρ.out 11 24 rfl (by rw [hs.size]; decide) rfl).trans r11
            obtain r12 : xv_ 12 = .int .i64 ((k : Nat) : Int) := hd 12 rfl
            have e25 : ρ (.tmp 25) = .int .i64 ((k : Nat) : Int) := (hρ.out 12 25 rfl (by rw [hs.size]; decide) rfl).trans r12
            refine g_index (r := o41 + k * 4) (k := k) rfl (e24.trans (slice_at hA42)) e25 Try.underlying47 (fun w => Try.sizeOf26 w) (by omega) rfl ?_
            exact hK _ _ (Below.refl _ _) rfl
          · intro xv_ wx ρ hρ hwx hd K hK
            obtain r13 : xv_ 13 = .pointer (some ⟨b40, o41 + k * 4, none⟩) := hd 13 rfl
            have e26 : ρ (.tmp 26) = .pointer (some ⟨b40, o41 + k * 4, none⟩) := (hρ.out 13 26 rfl (by rw [hs.size]; decide) rfl).trans r13
            refine g_field (r := o41 + k * 4 + 1) rfl e26 Try.underlying26 rfl (fun w => Try.sizeOf3 w) rfl rfl ?_
            exact hK _ _ (Below.refl _ _) rfl
          · intro xv_ wx ρ hρ hwx hd K hK
            obtain r14 : xv_ 14 = .pointer (some ⟨b40, o41 + k * 4 + 1, none⟩) := hd 14 rfl
            have e27 : ρ (.tmp 27) = .pointer (some ⟨b40, o41 + k * 4 + 1, none⟩) := (hρ.out 14 27 rfl (by rw [hs.size]; decide) rfl).trans r14
            have hc43 := elem_below hc43 hwx hl_hc43
            refine g_load rfl e27 Try.isAgg3 (by first | exact hc43 1 _ (by decide) rfl | (rw [Nat.add_assoc]; exact hc43 1 _ (by decide) rfl)) ?_
            exact hK _ _ (Below.refl _ _) rfl
          · intro xv_ wx ρ hρ hwx hd K hK
            have e0 : ρ (.tmp 0) = .slice A zs.length c := (hρ.inn 0 rfl).trans s0
            refine g_move rfl e0 ?_
            exact hK _ _ (Below.refl _ _) rfl
          · intro xv_ wx ρ hρ hwx hd K hK
            have e5 : ρ (.tmp 5) = .int .i64 ((m : Nat) : Int) := (hρ.inn 5 rfl).trans s5
            refine g_move rfl e5 ?_
            exact hK _ _ (Below.refl _ _) rfl
          · intro xv_ wx ρ hρ hwx hd K hK
            obtain r16 : xv_ 16 = .slice A zs.length c := hd 16 rfl
            have e29 : ρ (.tmp 29) = .slice A zs.length c := (hρ.out 16 29 rfl (by rw [hs.size]; decide) rfl).trans r16
            obtain r17 : xv_ 17 = .int .i64 ((m : Nat) : Int) := hd 17 rfl
            have e30 : ρ (.tmp 30) = .int .i64 ((m : Nat) : Int) := (hρ.out 17 30 rfl (by rw [hs.size]; decide) rfl).trans r17
            refine g_index (r := o45 + m * 4) (k := m) rfl (e29.trans (slice_at hA46)) e30 Try.underlying47 (fun w => Try.sizeOf26 w) (by omega) rfl ?_
            exact hK _ _ (Below.refl _ _) rfl
          · intro xv_ wx ρ hρ hwx hd K hK
            obtain r18 : xv_ 18 = .pointer (some ⟨b44, o45 + m * 4, none⟩) := hd 18 rfl
            have e31 : ρ (.tmp 31) = .pointer (some ⟨b44, o45 + m * 4, none⟩) := (hρ.out 18 31 rfl (by rw [hs.size]; decide) rfl).trans r18
            refine g_field (r := o45 + m * 4 + 1) rfl e31 Try.underlying26 rfl (fun w => Try.sizeOf3 w) rfl rfl ?_
            exact hK _ _ (Below.refl _ _) rfl
          · intro xv_ wx ρ hρ hwx hd K hK
            obtain r19 : xv_ 19 = .pointer (some ⟨b44, o45 + m * 4 + 1, none⟩) := hd 19 rfl
            have e32 : ρ (.tmp 32) = .pointer (some ⟨b44, o45 + m * 4 + 1, none⟩) := (hρ.out 19 32 rfl (by rw [hs.size]; decide) rfl).trans r19
            have hc47 := elem_below hc47 hwx hl_hc47
            refine g_load rfl e32 Try.isAgg3 (by first | exact hc47 1 _ (by decide) rfl | (rw [Nat.add_assoc]; exact hc47 1 _ (by decide) rfl)) ?_
            exact hK _ _ (Below.refl _ _) rfl
          · intro xv_ wx ρ hρ hwx hd K hK
            obtain r15 : xv_ 15 = .int .i64 (zs[k].f1) := hd 15 rfl
            have e28 : ρ (.tmp 28) = .int .i64 (zs[k].f1) := (hρ.out 15 28 rfl (by rw [hs.size]; decide) rfl).trans r15
            obtain r20 : xv_ 20 = .int .i64 (zs[m].f1) := hd 20 rfl
            have e33 : ρ (.tmp 33) = .int .i64 (zs[m].f1) := (hρ.out 20 33 rfl (by rw [hs.size]; decide) rfl).trans r20
            refine g_lss rfl e28 e33 ?_
            exact hK _ _ (Below.refl _ _) rfl
          · intro xv_ wx ρ hρ hwx hd K hK
            obtain r10 : xv_ 10 = .bool false := hd 10 rfl
            have e23 : ρ (.tmp 23) = .bool false := (hρ.out 10 23 rfl (by rw [hs.size]; decide) rfl).trans r10
            obtain r21 : xv_ 21 = .bool (decide (zs[k].f1 < zs[m].f1)) := hd 21 rfl
            have e34 : ρ (.tmp 34) = .bool (decide (zs[k].f1 < zs[m].f1)) := (hρ.out 21 34 rfl (by rw [hs.size]; decide) rfl).trans r21
            refine g_pick_f rfl e23 e34 ?_
            exact hK _ _ (Below.refl _ _) rfl
          · intro xv_ wx ρ hρ hwx hd K hK
            obtain r7 : xv_ 7 = .bool true := hd 7 rfl
            have e20 : ρ (.tmp 20) = .bool true := (hρ.out 7 20 rfl (by rw [hs.size]; decide) rfl).trans r7
            obtain r22 : xv_ 22 = .bool (decide (zs[k].f1 < zs[m].f1)) := hd 22 rfl
            have e35 : ρ (.tmp 35) = .bool (decide (zs[k].f1 < zs[m].f1)) := (hρ.out 22 35 rfl (by rw [hs.size]; decide) rfl).trans r22
            refine g_pick_t rfl e20 e35 ?_
            exact hK _ _ (Below.refl _ _) rfl
        · intro x0_ w48 hb_w48 hr0
          obtain r0 : x0_ 0 = .slice A zs.length c := hr0 0 (by decide) rfl rfl
          obtain r1 : x0_ 1 = .int .i64 ((k : Nat) : Int) := hr0 1 (by decide) rfl rfl
          obtain r2 : x0_ 2 = .pointer (some ⟨b36, o37 + k * 4, none⟩) := hr0 2 (by decide) rfl rfl
          obtain r3 : x0_ 3 = .pointer (some ⟨b36, o37 + k * 4 + 1, none⟩) := hr0 3 (by decide) rfl rfl
          obtain r4 : x0_ 4 = .int .i64 (zs[k].f1) := hr0 4 (by decide) rfl rfl
          obtain r5 : x0_ 5 = .int .i64 p := hr0 5 (by decide) rfl rfl
          obtain r6 : x0_ 6 = .bool true := hr0 6 (by decide) rfl rfl
          obtain r7 : x0_ 7 = .bool true := hr0 7 (by decide) rfl rfl
          obtain r8 : x0_ 8 = .int .i64 ((m : Nat) : Int) := hr0 8 (by decide) rfl rfl
          obtain r9 : x0_ 9 = .bool false := hr0 9 (by decide) rfl rfl
          obtain r10 : x0_ 10 = .bool false := hr0 10 (by decide) rfl rfl
          obtain r11 : x0_ 11 = .slice A zs.length c := hr0 11 (by decide) rfl rfl
          obtain r12 : x0_ 12 = .int .i64 ((k : Nat) : Int) := hr0 12 (by decide) rfl rfl
          obtain r13 : x0_ 13 = .pointer (some ⟨b40, o41 + k * 4, none⟩) := hr0 13 (by decide) rfl rfl
          obtain r14 : x0_ 14 = .pointer (some ⟨b40, o41 + k * 4 + 1, none⟩) := hr0 14 (by decide) rfl rfl
          obtain r15 : x0_ 15 = .int .i64 (zs[k].f1) := hr0 15 (by decide) rfl rfl
          obtain r16 : x0_ 16 = .slice A zs.length c := hr0 16 (by decide) rfl rfl
          obtain r17 : x0_ 17 = .int .i64 ((m : Nat) : Int) := hr0 17 (by decide) rfl rfl
          obtain r18 : x0_ 18 = .pointer (some ⟨b44, o45 + m * 4, none⟩) := hr0 18 (by decide) rfl rfl
          obtain r19 : x0_ 19 = .pointer (some ⟨b44, o45 + m * 4 + 1, none⟩) := hr0 19 (by decide) rfl rfl
          obtain r20 : x0_ 20 = .int .i64 (zs[m].f1) := hr0 20 (by decide) rfl rfl
          obtain r21 : x0_ 21 = .bool (decide (zs[k].f1 < zs[m].f1)) := hr0 21 (by decide) rfl rfl
          obtain r22 : x0_ 22 = .bool (decide (zs[k].f1 < zs[m].f1)) := hr0 22 (by decide) rfl rfl
          obtain r23 : x0_ 23 = .bool (decide (zs[k].f1 < zs[m].f1)) := hr0 23 (by decide) rfl rfl
          clear hr0
          replace hB := hB.trans (hb_w48.mono hB.size)
          clear hb_w48
          intro xv_ a9 hρ hsz hdf qx_ ql_ qk_ qlk_
          replace s0 : a9.eval (.tmp 0) = .slice A zs.length c := (hρ.inn 0 rfl).trans s0
          replace s1 : a9.eval (.tmp 1) = .int .i64 p := (hρ.inn 1 rfl).trans s1
          replace s4 : a9.eval (.tmp 4) = .int .i64 0 := (hρ.inn 4 rfl).trans s4
          replace s5 : a9.eval (.tmp 5) = .int .i64 ((m : Nat) : Int) := (hρ.inn 5 rfl).trans s5
          replace s6 : a9.eval (.tmp 6) = .int .i64 ((k : Nat) : Int) := (hρ.inn 6 rfl).trans s6
          replace s10 : a9.eval (.tmp 10) = .bool true := (hρ.inn 10 rfl).trans s10
          have s36 : a9.eval (.tmp 36) = .bool (decide (zs[k].f1 < zs[m].f1)) := (hρ.out 23 36 rfl (by rw [hs.size]; decide)).trans ((qx_ 23 (by decide) rfl rfl).trans r23)
          replace hs : St 39 a9 := ⟨hsz.trans hs.size, hdf.trans hs.nodef⟩
          clear hρ hsz hdf qx_ ql_ qk_ qlk_
          refine hK31 _ _ ?_
          clear hK31
          by_cases hc : zs[k].f1 < zs[m].f1
          · replace s36 := s36.trans (congrArg Value.bool (decide_eq_true hc))
            replace s36 : a9.eval (.tmp 36) = .bool true := s36
            refine c_true s36 ?_
            refine wp_region_lit ?_
            refine q_val rfl rfl ?_
            refine g_move rfl s6 ?_
            intro a10 p10
            have s37 : a10.eval (.tmp 37) = .int .i64 ((k : Nat) : Int) := p10.at hs (by decide)
            replace hs := p10.st hs
            refine q_val rfl rfl ?_
            refine g_assign rfl s37 ?_
            intro a11 p11
            have s5 : a11.eval (.tmp 5) = .int .i64 ((k : Nat) : Int) := p11.at hs (by decide)
            replace hs := p11.st hs
            refine wpList_nil ?_
            replace s0 : a11.eval (.tmp 0) = .slice A zs.length c := ((p11.ne rfl).trans (p10.ne rfl)).trans s0
            replace s1 : a11.eval (.tmp 1) = .int .i64 p := ((p11.ne rfl).trans (p10.ne rfl)).trans s1
            replace s4 : a11.eval (.tmp 4) = .int .i64 0 := ((p11.ne rfl).trans (p10.ne rfl)).trans s4
            replace s6 : a11.eval (.tmp 6) = .int .i64 ((k : Nat) : Int) := ((p11.ne rfl).trans (p10.ne rfl)).trans s6
            replace s10 : a11.eval (.tmp 10) = .bool true := ((p11.ne rfl).trans (p10.ne rfl)).trans s10
            replace s36 : a11.eval (.tmp 36) = .bool true := ((p11.ne rfl).trans (p10.ne rfl)).trans s36
            refine hK30 _ _ ?_
            clear hK30
            refine wp_region_lit ?_
            refine q_val rfl rfl ?_
            refine g_move rfl s6 ?_
            intro a12 p12
            have s11 : a12.eval (.tmp 11) = .int .i64 ((k : Nat) : Int) := p12.at hs (by decide)
            replace hs := p12.st hs
            refine q_val rfl rfl ?_
            refine g_add (r := ((k + 1 : Nat) : Int)) rfl s11 rfl (by omega) (by omega) ?_
            intro a13 p13
            have s12 : a13.eval (.tmp 12) = .int .i64 ((k + 1 : Nat) : Int) := p13.at hs (by decide)
            replace hs := p13.st hs
            refine q_val rfl rfl ?_
            refine g_assign rfl s12 ?_
            intro a14 p14
            have s6 : a14.eval (.tmp 6) = .int .i64 ((k + 1 : Nat) : Int) := p14.at hs (by decide)
            replace hs := p14.st hs
            refine wpList_nil ?_
            replace s0 : a14.eval (.tmp 0) = .slice A zs.length c := ((p14.ne rfl).trans ((p13.ne rfl).trans (p12.ne rfl))).trans s0
            replace s1 : a14.eval (.tmp 1) = .int .i64 p := ((p14.ne rfl).trans ((p13.ne rfl).trans (p12.ne rfl))).trans s1
            replace s4 : a14.eval (.tmp 4) = .int .i64 0 := ((p14.ne rfl).trans ((p13.ne rfl).trans (p12.ne rfl))).trans s4
            replace s5 : a14.eval (.tmp 5) = .int .i64 ((k : Nat) : Int) := ((p14.ne rfl).trans ((p13.ne rfl).trans (p12.ne rfl))).trans s5
            replace s10 : a14.eval (.tmp 10) = .bool true := ((p14.ne rfl).trans ((p13.ne rfl).trans (p12.ne rfl))).trans s10
            replace s36 : a14.eval (.tmp 36) = .bool true := ((p14.ne rfl).trans ((p13.ne rfl).trans (p12.ne rfl))).trans s36
            refine show _ ∧ _ from ⟨⟨k + 1, ((k : Nat) : Int), hs, s0, s1, s4, s5, s6, hB, by omega, lbTo_b hlt hb hml hp hc⟩, ?_⟩
            show zs.length - (intOf (a14.eval (.tmp 6))).toNat < zs.length - (intOf (a4.eval (.tmp 6))).toNat
            rw [s6, mu0]
            simp only [intOf]
            omega
          · replace s36 := s36.trans (congrArg Value.bool (decide_eq_false hc))
            replace s36 : a9.eval (.tmp 36) = .bool false := s36
            refine c_false s36 ?_
            refine wp_skip ?_
            refine hK30 _ _ ?_
            clear hK30
            refine wp_region_lit ?_
            refine q_val rfl rfl ?_
            refine g_move rfl s6 ?_
            intro a10 p10
            have s11 : a10.eval (.tmp 11) = .int .i64 ((k : Nat) : Int) := p10.at hs (by decide)
            replace hs := p10.st hs
            refine q_val rfl rfl ?_
            refine g_add (r := ((k + 1 : Nat) : Int)) rfl s11 rfl (by omega) (by omega) ?_
            intro a11 p11
            have s12 : a11.eval (.tmp 12) = .int .i64 ((k + 1 : Nat) : Int) := p11.at hs (by decide)
            replace hs := p11.st hs
            refine q_val rfl rfl ?_
            refine g_assign rfl s12 ?_
            intro a12 p12
            have s6 : a12.eval (.tmp 6) = .int .i64 ((k + 1 : Nat) : Int) := p12.at hs (by decide)
            replace hs := p12.st hs
            refine wpList_nil ?_
            replace s0 : a12.eval (.tmp 0) = .slice A zs.length c := ((p12.ne rfl).trans ((p11.ne rfl).trans (p10.ne rfl))).trans s0
            replace s1 : a12.eval (.tmp 1) = .int .i64 p := ((p12.ne rfl).trans ((p11.ne rfl).trans (p10.ne rfl))).trans s1
            replace s4 : a12.eval (.tmp 4) = .int .i64 0 := ((p12.ne rfl).trans ((p11.ne rfl).trans (p10.ne rfl))).trans s4
            replace s5 : a12.eval (.tmp 5) = .int .i64 ((m : Nat) : Int) := ((p12.ne rfl).trans ((p11.ne rfl).trans (p10.ne rfl))).trans s5
            replace s10 : a12.eval (.tmp 10) = .bool true := ((p12.ne rfl).trans ((p11.ne rfl).trans (p10.ne rfl))).trans s10
            replace s36 : a12.eval (.tmp 36) = .bool false := ((p12.ne rfl).trans ((p11.ne rfl).trans (p10.ne rfl))).trans s36
            refine show _ ∧ _ from ⟨⟨k + 1, ((m : Nat) : Int), hs, s0, s1, s4, s5, s6, hB, by omega, lbTo_d hlt hb hml hc⟩, ?_⟩
            show zs.length - (intOf (a12.eval (.tmp 6))).toNat < zs.length - (intOf (a4.eval (.tmp 6))).toNat
            rw [s6, mu0]
            simp only [intOf]
            omega
      · have hlt : k < zs.length := by omega
        have hml : m < zs.length := lbTo_lt hk hb (by omega)
        obtain ⟨b49, o50, hA51, hl_hc52, hc52⟩ := Rd.get cRecord_len (hr_z.below hB) rfl (i := k) (by omega)
        refine wp_drawn (n := 39) [] [] [] (fun k_ v_ _wx => match k_ with | 0 => v_ = .slice A zs.length c | 1 => v_ = .int .i64 ((k : Nat) : Int) | 2 => v_ = .pointer (some ⟨b49, o50 + k * 4, none⟩) | 3 => v_ = .pointer (some ⟨b49, o50 + k * 4 + 1, none⟩) | 4 => v_ = .int .i64 (zs[k].f1) | 5 => v_ = .int .i64 p | 6 => v_ = .bool false | 7 => v_ = .bool false | 10 => v_ = undef | 23 => v_ = .bool false | _ => True) (by kernel_rfl) (by kernel_rfl) (by kernel_rfl) (by kernel_rfl) hs.size ?_ ?_ ?_
        · intro i v wa wb hb hr
          rcases i with _ | _ | _ | _ | _ | _ | _ | _ | _ | _ | _ | _ | _ | _ | _ | _ | _ | _ | _ | _ | _ | _ | _ | _ | i
          · exact hr
          · exact hr
          · exact hr
          · exact hr
          · exact hr
          · exact hr
          · exact hr
          · exact hr
          · trivial
          · trivial
          · exact hr
          · trivial
          · trivial
          · trivial
          · trivial
          · trivial
          · trivial
          · trivial
          · trivial
          · trivial
          · trivial
          · trivial
          · trivial
          · exact hr
          · trivial
        · refine d_step rfl rfl ?_ (d_step rfl rfl ?_ (d_step rfl rfl ?_ (d_step rfl rfl ?_ (d_step rfl rfl ?_ (d_step rfl rfl ?_ (d_step rfl rfl ?_ (d_step rfl rfl ?_ (d_skip 7 true 20 rfl rfl rfl (fun v w h => Or.inl h) (fun w => trivial) (d_skip 7 true 20 rfl rfl rfl (fun v w h => Or.inl h) (fun w => trivial) (d_skip 7 true 20 rfl rfl rfl (fun v w h => Or.inl h) (fun w => rfl) (d_skip 10 false 23 rfl rfl rfl (fun v w h => Or.inr h) (fun w => trivial) (d_skip 10 false 23 rfl rfl rfl (fun v w h => Or.inr h) (fun w => trivial) (d_skip 10 false 23 rfl rfl rfl (fun v w h => Or.inr h) (fun w => trivial) (d_skip 10 false 23 rfl rfl rfl (fun v w h => Or.inr h) (fun w => trivial) (d_skip 10 false 23 rfl rfl rfl (fun v w h => Or.inr h) (fun w => trivial) (d_skip 10 false 23 rfl rfl rfl (fun v w h => Or.inr h) (fun w => trivial) (d_skip 10 false 23 rfl rfl rfl (fun v w h => Or.inr h) (fun w => trivial) (d_skip 10 false 23 rfl rfl rfl (fun v w h => Or.inr h) (fun w => trivial) (d_skip 10 false 23 rfl rfl rfl (fun v w h => Or.inr h) (fun w => trivial) (d_skip 10 false 23 rfl rfl rfl (fun v w h => Or.inr h) (fun w => trivial) (d_skip 10 false 23 rfl rfl rfl (fun v w h => Or.inr h) (fun w => trivial) (d_skip 7 true 20 rfl rfl rfl (fun v w h => Or.inl h) (fun w => trivial) (d_step rfl rfl ?_ (d_nil))))))))))))))))))))))))
          · intro xv_ wx ρ hρ hwx hd K hK
            have e0 : ρ (.tmp 0) = .slice A zs.length c := (hρ.inn 0 rfl).trans s0
            refine g_move rfl e0 ?_
            exact hK _ _ (Below.refl _ _) rfl
          · intro xv_ wx ρ hρ hwx hd K hK
            have e6 : ρ (.tmp 6) = .int .i64 ((k : Nat) : Int) := (hρ.inn 6 rfl).trans s6
            refine g_move rfl e6 ?_
            exact hK _ _ (Below.refl _ _) rfl
          · intro xv_ wx ρ hρ hwx hd K hK
            obtain r0 : xv_ 0 = .slice A zs.length c := hd 0 rfl
            have e13 : ρ (.tmp 13) = .slice A zs.length c := (hρ.out 0 13 rfl (by rw [hs.size]; decide) rfl).trans r0
            obtain r1 : xv_ 1 = .int .i64 ((k : Nat) : Int) := hd 1 rfl
            have e14 : ρ (.tmp 14) = .int .i64 ((k : Nat) : Int) := (hρ.out 1 14 rfl (by rw [hs.size]; decide) rfl).trans r1
            refine g_index (r := o50 + k * 4) (k := k) rfl (e13.trans (slice_at hA51)) e14 Try.underlying47 (fun w => Try.sizeOf26 w) (by omega) rfl ?_
            exact hK _ _ (Below.refl _ _) rfl
          · intro xv_ wx ρ hρ hwx hd K hK
            obtain r2 : xv_ 2 = .pointer (some ⟨b49, o50 + k * 4, none⟩) := hd 2 rfl
            have e15 : ρ (.tmp 15) = .pointer (some ⟨b49, o50 + k * 4, none⟩) := (hρ.out 2 15 rfl (by rw [hs.size]; decide) rfl).trans r2
            refine g_field (r := o50 + k * 4 + 1) rfl e15 Try.underlying26 rfl (fun w => Try.sizeOf3 w) rfl rfl ?_
            exact hK _ _ (Below.refl _ _) rfl
          · intro xv_ wx ρ hρ hwx hd K hK
            obtain r3 : xv_ 3 = .pointer (some ⟨b49, o50 + k * 4 + 1, none⟩) := hd 3 rfl
            have e16 : ρ (.tmp 16) = .pointer (some ⟨b49, o50 + k * 4 + 1, none⟩) := (hρ.out 3 16 rfl (by rw [hs.size]; decide) rfl).trans r3
            have hc52 := elem_below hc52 hwx hl_hc52
            refine g_load rfl e16 Try.isAgg3 (by first | exact hc52 1 _ (by decide) rfl | (rw [Nat.add_assoc]; exact hc52 1 _ (by decide) rfl)) ?_
            exact hK _ _ (Below.refl _ _) rfl
          · intro xv_ wx ρ hρ hwx hd K hK
            have e1 : ρ (.tmp 1) = .int .i64 p := (hρ.inn 1 rfl).trans s1
            refine g_move rfl e1 ?_
            exact hK _ _ (Below.refl _ _) rfl
          · intro xv_ wx ρ hρ hwx hd K hK
            obtain r4 : xv_ 4 = .int .i64 (zs[k].f1) := hd 4 rfl
            have e17 : ρ (.tmp 17) = .int .i64 (zs[k].f1) := (hρ.out 4 17 rfl (by rw [hs.size]; decide) rfl).trans r4
            obtain r5 : xv_ 5 = .int .i64 p := hd 5 rfl
            have e18 : ρ (.tmp 18) = .int .i64 p := (hρ.out 5 18 rfl (by rw [hs.size]; decide) rfl).trans r5
            refine g_lss rfl e17 e18 ?_
            exact hK _ _ (Below.refl _ _) (congrArg Value.bool (decide_eq_false hp))
          · intro xv_ wx ρ hρ hwx hd K hK
            obtain r6 : xv_ 6 = .bool false := hd 6 rfl
            have e19 : ρ (.tmp 19) = .bool false := (hρ.out 6 19 rfl (by rw [hs.size]; decide) rfl).trans r6
            refine g_move rfl e19 ?_
            exact hK _ _ (Below.refl _ _) rfl
          · intro xv_ wx ρ hρ hwx hd K hK
            obtain r7 : xv_ 7 = .bool false := hd 7 rfl
            have e20 : ρ (.tmp 20) = .bool false := (hρ.out 7 20 rfl (by rw [hs.size]; decide) rfl).trans r7
            refine g_pick_f rfl e20 ((hρ.cst _)) ?_
            exact hK _ _ (Below.refl _ _) rfl
        · intro x0_ w53 hb_w53 hr0
          obtain r0 : x0_ 0 = .slice A zs.length c := hr0 0 (by decide) rfl rfl
          obtain r1 : x0_ 1 = .int .i64 ((k : Nat) : Int) := hr0 1 (by decide) rfl rfl
          obtain r2 : x0_ 2 = .pointer (some ⟨b49, o50 + k * 4, none⟩) := hr0 2 (by decide) rfl rfl
          obtain r3 : x0_ 3 = .pointer (some ⟨b49, o50 + k * 4 + 1, none⟩) := hr0 3 (by decide) rfl rfl
          obtain r4 : x0_ 4 = .int .i64 (zs[k].f1) := hr0 4 (by decide) rfl rfl
          obtain r5 : x0_ 5 = .int .i64 p := hr0 5 (by decide) rfl rfl
          obtain r6 : x0_ 6 = .bool false := hr0 6 (by decide) rfl rfl
          obtain r7 : x0_ 7 = .bool false := hr0 7 (by decide) rfl rfl
          obtain r23 : x0_ 23 = .bool false := hr0 23 (by decide) rfl rfl
          clear hr0
          replace hB := hB.trans (hb_w53.mono hB.size)
          clear hb_w53
          intro xv_ a9 hρ hsz hdf qx_ ql_ qk_ qlk_
          replace s0 : a9.eval (.tmp 0) = .slice A zs.length c := (hρ.inn 0 rfl).trans s0
          replace s1 : a9.eval (.tmp 1) = .int .i64 p := (hρ.inn 1 rfl).trans s1
          replace s4 : a9.eval (.tmp 4) = .int .i64 0 := (hρ.inn 4 rfl).trans s4
          replace s5 : a9.eval (.tmp 5) = .int .i64 ((m : Nat) : Int) := (hρ.inn 5 rfl).trans s5
          replace s6 : a9.eval (.tmp 6) = .int .i64 ((k : Nat) : Int) := (hρ.inn 6 rfl).trans s6
          replace s10 : a9.eval (.tmp 10) = .bool true := (hρ.inn 10 rfl).trans s10
          have s36 : a9.eval (.tmp 36) = .bool false := (hρ.out 23 36 rfl (by rw [hs.size]; decide)).trans ((qx_ 23 (by decide) rfl rfl).trans r23)
          replace hs : St 39 a9 := ⟨hsz.trans hs.size, hdf.trans hs.nodef⟩
          clear hρ hsz hdf qx_ ql_ qk_ qlk_
          refine hK31 _ _ ?_
          clear hK31
          refine c_false s36 ?_
          refine wp_skip ?_
          refine hK30 _ _ ?_
          clear hK30
          refine wp_region_lit ?_
          refine q_val rfl rfl ?_
          refine g_move rfl s6 ?_
          intro a10 p10
          have s11 : a10.eval (.tmp 11) = .int .i64 ((k : Nat) : Int) := p10.at hs (by decide)
          replace hs := p10.st hs
          refine q_val rfl rfl ?_
          refine g_add (r := ((k + 1 : Nat) : Int)) rfl s11 rfl (by omega) (by omega) ?_
          intro a11 p11
          have s12 : a11.eval (.tmp 12) = .int .i64 ((k + 1 : Nat) : Int) := p11.at hs (by decide)
          replace hs := p11.st hs
          refine q_val rfl rfl ?_
          refine g_assign rfl s12 ?_
          intro a12 p12
          have s6 : a12.eval (.tmp 6) = .int .i64 ((k + 1 : Nat) : Int) := p12.at hs (by decide)
          replace hs := p12.st hs
          refine wpList_nil ?_
          replace s0 : a12.eval (.tmp 0) = .slice A zs.length c := ((p12.ne rfl).trans ((p11.ne rfl).trans (p10.ne rfl))).trans s0
          replace s1 : a12.eval (.tmp 1) = .int .i64 p := ((p12.ne rfl).trans ((p11.ne rfl).trans (p10.ne rfl))).trans s1
          replace s4 : a12.eval (.tmp 4) = .int .i64 0 := ((p12.ne rfl).trans ((p11.ne rfl).trans (p10.ne rfl))).trans s4
          replace s5 : a12.eval (.tmp 5) = .int .i64 ((m : Nat) : Int) := ((p12.ne rfl).trans ((p11.ne rfl).trans (p10.ne rfl))).trans s5
          replace s10 : a12.eval (.tmp 10) = .bool true := ((p12.ne rfl).trans ((p11.ne rfl).trans (p10.ne rfl))).trans s10
          replace s36 : a12.eval (.tmp 36) = .bool false := ((p12.ne rfl).trans ((p11.ne rfl).trans (p10.ne rfl))).trans s36
          refine show _ ∧ _ from ⟨⟨k + 1, ((m : Nat) : Int), hs, s0, s1, s4, s5, s6, hB, by omega, lbTo_c hlt hb hp⟩, ?_⟩
          show zs.length - (intOf (a12.eval (.tmp 6))).toNat < zs.length - (intOf (a4.eval (.tmp 6))).toNat
          rw [s6, mu0]
          simp only [intOf]
          omega
    · replace s10 := s10.trans (congrArg Value.bool (decide_eq_false hc29))
      replace s10 : a8.eval (.tmp 10) = .bool false := s10
      refine c_false s10 ?_
      refine wp_exit ?_
      refine hK3 _ _ ?_
      clear hK3
      refine wp_seq_k fun K54 hK54 => ?_
      refine wp_region_lit ?_
      refine q_val rfl rfl ?_
      refine g_move rfl s5 ?_
      intro a9 p9
      have s38 : a9.eval (.tmp 38) = .int .i64 ((m : Nat) : Int) := p9.at hs (by decide)
      replace hs := p9.st hs
      refine q_val rfl rfl ?_
      refine g_assign rfl s38 ?_
      intro a10 p10
      have s4 : a10.eval (.tmp 4) = .int .i64 ((m : Nat) : Int) := p10.at hs (by decide)
      replace hs := p10.st hs
      refine wpList_nil ?_
      refine hK54 _ _ ?_
      clear hK54
      refine wp_ret ?_
      try dsimp only [Exit.then, Exit.inBlock]
      refine ret1 hs Try.results78 (res_tmp s4) ?_
      have hkz : k = zs.length := by omega
      subst hkz
      exact ⟨by rw [hb] at hv; rw [hv], hB⟩
end Go.Proofs.Ytnjopeonmenopaa
