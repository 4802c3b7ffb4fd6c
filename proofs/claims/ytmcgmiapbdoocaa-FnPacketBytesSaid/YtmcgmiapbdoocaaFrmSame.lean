/- Contracts: lists of packets that are alike, unpackers that are valid. No condition. -/
import Derived.Test.YtmcgmiapbdoocaaFrmAt
namespace Go.Proofs.Ytmcgmiapbdoocaa
open Go.RowKit

theorem unpackerOk_yes {u : EUnp} (w : World) (hu : unpOk u = true) :
    Calls Try.prog 16 #[.agg #[.int .i64 u.ch, .int .i64 u.nx, .bool u.sy, .string ⟨(u.rest).toArray⟩, .int .i64 u.lost]] w fun e w' => e = .returned (.bool true) ∧ Below w.heap.size w w' := by
  have h := (unpOk_parts hu).2.2.2.2
  have := unpackerOk_any (u := u) w (by unfold Txt; omega)
  rw [hu] at this
  exact this
set_option maxRecDepth 100000 in
set_option maxHeartbeats 4000000 in
theorem samePackets_same (A : Option Addr) (n c : Nat) (B : Option Addr) (m d : Nat) (xs ys : List EPacket) (w : World) (hn : xs.length = n) (hm : ys.length = m) (hxy : ys = xs) (hb : n ≤ 1048576) (hr_x : Rd w 3 A n (xs.flatMap cPacket)) (hr_y : Rd w 3 B m (ys.flatMap cPacket)) :
    Calls Try.prog 15 #[.slice A n c, .slice B m d] w fun e w' => e = .returned (.bool true) ∧ Below w.heap.size w w' := by
  subst ys
  refine enter 26 Try.func15 rfl rfl (Nat.le_of_ble_eq_true rfl) ?_
  intro a0 hs hargs
  have s0 : a0.eval (.tmp 0) = .slice A n c := hargs 0 _ rfl
  have s1 : a0.eval (.tmp 1) = .slice B m d := hargs 1 _ rfl
  clear hargs
  have hB : Below w.heap.size w w := Below.refl _ _
  refine wp_seq_k fun K1 hK1 => ?_
  refine wp_region_lit ?_
  refine q_val rfl rfl ?_
  refine g_assign rfl rfl ?_
  intro a1 p1
  have s4 : a1.eval (.tmp 4) = .bool false := p1.at hs (by decide)
  replace hs := p1.st hs
  refine wpList_nil ?_
  replace s0 : a1.eval (.tmp 0) = .slice A n c := (p1.ne rfl).trans s0
  replace s1 : a1.eval (.tmp 1) = .slice B m d := (p1.ne rfl).trans s1
  refine hK1 _ _ ?_
  clear hK1
  refine wp_seq_k fun K2 hK2 => ?_
  refine wp_seq_k fun K3 hK3 => ?_
  refine wp_region_lit ?_
  refine q_val rfl rfl ?_
  refine g_move rfl s0 ?_
  intro a2 p2
  have s6 : a2.eval (.tmp 6) = .slice A n c := p2.at hs (by decide)
  replace hs := p2.st hs
  refine q_val rfl rfl ?_
  refine g_len (e := _) rfl Try.underlying24 s6 ?_
  intro a3 p3
  have s7 : a3.eval (.tmp 7) = .int .i64 ((n : Nat) : Int) := p3.at hs (by decide)
  replace hs := p3.st hs
  refine q_val rfl rfl ?_
  refine g_move rfl (((p3.ne rfl).trans (p2.ne rfl)).trans s1) ?_
  intro a4 p4
  have s8 : a4.eval (.tmp 8) = .slice B m d := p4.at hs (by decide)
  replace hs := p4.st hs
  refine q_val rfl rfl ?_
  refine g_len (e := _) rfl Try.underlying24 s8 ?_
  intro a5 p5
  have s9 : a5.eval (.tmp 9) = .int .i64 ((m : Nat) : Int) := p5.at hs (by decide)
  replace hs := p5.st hs
  refine q_val rfl rfl ?_
  refine g_neq rfl (((p5.ne rfl).trans (p4.ne rfl)).trans s7) s9 ?_
  intro a6 p6
  have s10 : a6.eval (.tmp 10) = .bool false := (p6.at hs (by decide)).trans (congrArg (fun b => Value.bool (!b)) (decide_eq_true (by omega)))
  replace hs := p6.st hs
  refine wpList_nil ?_
  replace s0 : a6.eval (.tmp 0) = .slice A n c := ((p6.ne rfl).trans ((p5.ne rfl).trans ((p4.ne rfl).trans ((p3.ne rfl).trans (p2.ne rfl))))).trans s0
  replace s1 : a6.eval (.tmp 1) = .slice B m d := ((p6.ne rfl).trans ((p5.ne rfl).trans ((p4.ne rfl).trans ((p3.ne rfl).trans (p2.ne rfl))))).trans s1
  replace s4 : a6.eval (.tmp 4) = .bool false := ((p6.ne rfl).trans ((p5.ne rfl).trans ((p4.ne rfl).trans ((p3.ne rfl).trans (p2.ne rfl))))).trans s4
  refine hK3 _ _ ?_
  clear hK3
  refine c_false s10 ?_
  refine wp_skip ?_
  refine hK2 _ _ ?_
  clear hK2
  refine wp_seq_k fun K4 hK4 => ?_
  refine wp_seq_k fun K5 hK5 => ?_
  refine wp_region_lit ?_
  refine q_val rfl rfl ?_
  refine g_assign rfl rfl ?_
  intro a7 p7
  have s5 : a7.eval (.tmp 5) = .int .i64 0 := p7.at hs (by decide)
  replace hs := p7.st hs
  refine wpList_nil ?_
  replace s0 : a7.eval (.tmp 0) = .slice A n c := (p7.ne rfl).trans s0
  replace s1 : a7.eval (.tmp 1) = .slice B m d := (p7.ne rfl).trans s1
  replace s4 : a7.eval (.tmp 4) = .bool false := (p7.ne rfl).trans s4
  refine hK5 _ _ ?_
  clear hK5
  refine wp_block ?_
  refine wp_loop (fun a wr => ∃ (k : Nat), (St 26 a) ∧ (a.eval (.tmp 0) = .slice A n c) ∧ (a.eval (.tmp 1) = .slice B m d) ∧ (a.eval (.tmp 4) = .bool false) ∧ (a.eval (.tmp 5) = .int .i64 ((k : Nat) : Int)) ∧ (Below w.heap.size w wr) ∧ (k ≤ n)) (fun a _ => n - (intOf (a.eval (.tmp 5))).toNat) (⟨0, hs, s0, s1, s4, s5, hB, Nat.zero_le _⟩) ?_
  intro a8 w7 hI
  obtain ⟨k, hs, s0, s1, s4, s5, hB, hk⟩ := hI
  have mu8 := s5
  refine wp_seq_k fun K9 hK9 => ?_
  refine wp_seq_k fun K10 hK10 => ?_
  refine wp_region_lit ?_
  refine q_val rfl rfl ?_
  refine g_move rfl s5 ?_
  intro a9 p9
  have s11 : a9.eval (.tmp 11) = .int .i64 ((k : Nat) : Int) := p9.at hs (by decide)
  replace hs := p9.st hs
  refine q_val rfl rfl ?_
  refine g_move rfl ((p9.ne rfl).trans s0) ?_
  intro a10 p10
  have s12 : a10.eval (.tmp 12) = .slice A n c := p10.at hs (by decide)
  replace hs := p10.st hs
  refine q_val rfl rfl ?_
  refine g_len (e := _) rfl Try.underlying24 s12 ?_
  intro a11 p11
  have s13 : a11.eval (.tmp 13) = .int .i64 ((n : Nat) : Int) := p11.at hs (by decide)
  replace hs := p11.st hs
  refine q_val rfl rfl ?_
  refine g_lss rfl (((p11.ne rfl).trans (p10.ne rfl)).trans s11) s13 ?_
  intro a12 p12
  have s14 : a12.eval (.tmp 14) = .bool (decide (((k : Nat) : Int) < ((n : Nat) : Int))) := p12.at hs (by decide)
  replace hs := p12.st hs
  refine wpList_nil ?_
  replace s0 : a12.eval (.tmp 0) = .slice A n c := ((p12.ne rfl).trans ((p11.ne rfl).trans ((p10.ne rfl).trans (p9.ne rfl)))).trans s0
  replace s1 : a12.eval (.tmp 1) = .slice B m d := ((p12.ne rfl).trans ((p11.ne rfl).trans ((p10.ne rfl).trans (p9.ne rfl)))).trans s1
  replace s4 : a12.eval (.tmp 4) = .bool false := ((p12.ne rfl).trans ((p11.ne rfl).trans ((p10.ne rfl).trans (p9.ne rfl)))).trans s4
  replace s5 : a12.eval (.tmp 5) = .int .i64 ((k : Nat) : Int) := ((p12.ne rfl).trans ((p11.ne rfl).trans ((p10.ne rfl).trans (p9.ne rfl)))).trans s5
  refine hK10 _ _ ?_
  clear hK10
  by_cases hc11 : ((k : Nat) : Int) < ((n : Nat) : Int)
  · replace s14 := s14.trans (congrArg Value.bool (decide_eq_true hc11))
    replace s14 : a12.eval (.tmp 14) = .bool true := s14
    refine c_true s14 ?_
    refine wp_skip ?_
    refine hK9 _ _ ?_
    clear hK9
    refine wp_seq_k fun K12 hK12 => ?_
    refine wp_block ?_
    refine wp_seq_k fun K13 hK13 => ?_
    have hlt : k < xs.length := by omega
    obtain ⟨b14, o15, hA16, hl_hc17, hc17⟩ := Rd.get cPacket_len (hr_x.below hB) (Eq.symm hn) (i := k) (by omega)
    obtain ⟨b18, o19, hA20, hl_hc21, hc21⟩ := Rd.get cPacket_len (hr_y.below hB) (Eq.symm hm) (i := k) (by omega)
    refine wp_drawn (n := 26) [] [] [] (fun k_ v_ _wx => match k_ with | 0 => v_ = .slice A n c | 1 => v_ = .int .i64 ((k : Nat) : Int) | 2 => v_ = .pointer (some ⟨b14, o15 + k * 3, none⟩) | 3 => v_ = .agg #[.int .i64 (xs[k].f0), .int .i64 (xs[k].f1), .string ⟨(xs[k].f2).toArray⟩] | 4 => v_ = .slice B m d | 5 => v_ = .int .i64 ((k : Nat) : Int) | 6 => v_ = .pointer (some ⟨b18, o19 + k * 3, none⟩) | 7 => v_ = .agg #[.int .i64 (xs[k].f0), .int .i64 (xs[k].f1), .string ⟨(xs[k].f2).toArray⟩] | 8 => v_ = .bool false | _ => True) (by kernel_rfl) (by kernel_rfl) (by kernel_rfl) (by kernel_rfl) hs.size ?_ ?_ ?_
    · intro i v wa wb hb hr
      rcases i with _ | _ | _ | _ | _ | _ | _ | _ | _ | i
      · exact hr
      · exact hr
      · exact hr
      · exact hr
      · exact hr
      · exact hr
      · exact hr
      · exact hr
      · exact hr
      · trivial
    · refine d_step rfl rfl ?_ (d_step rfl rfl ?_ (d_step rfl rfl ?_ (d_step rfl rfl ?_ (d_step rfl rfl ?_ (d_step rfl rfl ?_ (d_step rfl rfl ?_ (d_step rfl rfl ?_ (d_step rfl rfl ?_ (d_nil)))))))))
      · intro xv_ wx ρ hρ hwx hd K hK
        have e0 : ρ (.tmp 0) = .slice A n c := (hρ.inn 0 rfl).trans s0
        refine g_move rfl e0 ?_
        exact hK _ _ (Below.refl _ _) rfl
      · intro xv_ wx ρ hρ hwx hd K hK
        have e5 : ρ (.tmp 5) = .int .i64 ((k : Nat) : Int) := (hρ.inn 5 rfl).trans s5
        refine g_move rfl e5 ?_
        exact hK _ _ (Below.refl _ _) rfl
      · intro xv_ wx ρ hρ hwx hd K hK
        obtain r0 : xv_ 0 = .slice A n c := hd 0 rfl
        have e17 : ρ (.tmp 17) = .slice A n c := (hρ.out 0 17 rfl (by rw [hs.size]; decide) rfl).trans r0
        obtain r1 : xv_ 1 = .int .i64 ((k : Nat) : Int) := hd 1 rfl
        have e18 : ρ (.tmp 18) = .int .i64 ((k : Nat) : Int) := (hρ.out 1 18 rfl (by rw [hs.size]; decide) rfl).trans r1
        refine g_index (r := o15 + k * 3) (k := k) rfl (e17.trans (slice_at hA16)) e18 Try.underlying24 (fun w => Try.sizeOf32 w) (by omega) rfl ?_
        exact hK _ _ (Below.refl _ _) rfl
      · intro xv_ wx ρ hρ hwx hd K hK
        obtain r2 : xv_ 2 = .pointer (some ⟨b14, o15 + k * 3, none⟩) := hd 2 rfl
        have e19 : ρ (.tmp 19) = .pointer (some ⟨b14, o15 + k * 3, none⟩) := (hρ.out 2 19 rfl (by rw [hs.size]; decide) rfl).trans r2
        have hc17 := elem_below hc17 hwx hl_hc17
        refine g_loadA (l := cPacket xs[k]) rfl e19 Try.isAgg32 Try.sizeOf32 rfl (fun j u hu => by rw [Nat.add_assoc]; exact hc17 j u (by have := (List.getElem?_eq_some_iff.1 hu).1; exact this) hu) ?_
        exact hK _ _ (Below.refl _ _) rfl
      · intro xv_ wx ρ hρ hwx hd K hK
        have e1 : ρ (.tmp 1) = .slice B m d := (hρ.inn 1 rfl).trans s1
        refine g_move rfl e1 ?_
        exact hK _ _ (Below.refl _ _) rfl
      · intro xv_ wx ρ hρ hwx hd K hK
        have e5 : ρ (.tmp 5) = .int .i64 ((k : Nat) : Int) := (hρ.inn 5 rfl).trans s5
        refine g_move rfl e5 ?_
        exact hK _ _ (Below.refl _ _) rfl
      · intro xv_ wx ρ hρ hwx hd K hK
        obtain r4 : xv_ 4 = .slice B m d := hd 4 rfl
        have e21 : ρ (.tmp 21) = .slice B m d := (hρ.out 4 21 rfl (by rw [hs.size]; decide) rfl).trans r4
        obtain r5 : xv_ 5 = .int .i64 ((k : Nat) : Int) := hd 5 rfl
        have e22 : ρ (.tmp 22) = .int .i64 ((k : Nat) : Int) := (hρ.out 5 22 rfl (by rw [hs.size]; decide) rfl).trans r5
        refine g_index (r := o19 + k * 3) (k := k) rfl (e21.trans (slice_at hA20)) e22 Try.underlying24 (fun w => Try.sizeOf32 w) (by omega) rfl ?_
        exact hK _ _ (Below.refl _ _) rfl
      · intro xv_ wx ρ hρ hwx hd K hK
        obtain r6 : xv_ 6 = .pointer (some ⟨b18, o19 + k * 3, none⟩) := hd 6 rfl
        have e23 : ρ (.tmp 23) = .pointer (some ⟨b18, o19 + k * 3, none⟩) := (hρ.out 6 23 rfl (by rw [hs.size]; decide) rfl).trans r6
        have hc21 := elem_below hc21 hwx hl_hc21
        refine g_loadA (l := cPacket xs[k]) rfl e23 Try.isAgg32 Try.sizeOf32 rfl (fun j u hu => by rw [Nat.add_assoc]; exact hc21 j u (by have := (List.getElem?_eq_some_iff.1 hu).1; exact this) hu) ?_
        exact hK _ _ (Below.refl _ _) rfl
      · intro xv_ wx ρ hρ hwx hd K hK
        obtain r3 : xv_ 3 = .agg #[.int .i64 (xs[k].f0), .int .i64 (xs[k].f1), .string ⟨(xs[k].f2).toArray⟩] := hd 3 rfl
        have e20 : ρ (.tmp 20) = .agg #[.int .i64 (xs[k].f0), .int .i64 (xs[k].f1), .string ⟨(xs[k].f2).toArray⟩] := (hρ.out 3 20 rfl (by rw [hs.size]; decide) rfl).trans r3
        obtain r7 : xv_ 7 = .agg #[.int .i64 (xs[k].f0), .int .i64 (xs[k].f1), .string ⟨(xs[k].f2).toArray⟩] := hd 7 rfl
        have e24 : ρ (.tmp 24) = .agg #[.int .i64 (xs[k].f0), .int .i64 (xs[k].f1), .string ⟨(xs[k].f2).toArray⟩] := (hρ.out 7 24 rfl (by rw [hs.size]; decide) rfl).trans r7
        refine g_neqP rfl e20 e24 rfl ?_
        exact hK _ _ (Below.refl _ _) rfl
    · intro x0_ w22 hb_w22 hr0
      obtain r0 : x0_ 0 = .slice A n c := hr0 0 (by decide) rfl rfl
      obtain r1 : x0_ 1 = .int .i64 ((k : Nat) : Int) := hr0 1 (by decide) rfl rfl
      obtain r2 : x0_ 2 = .pointer (some ⟨b14, o15 + k * 3, none⟩) := hr0 2 (by decide) rfl rfl
      obtain r3 : x0_ 3 = .agg #[.int .i64 (xs[k].f0), .int .i64 (xs[k].f1), .string ⟨(xs[k].f2).toArray⟩] := hr0 3 (by decide) rfl rfl
      obtain r4 : x0_ 4 = .slice B m d := hr0 4 (by decide) rfl rfl
      obtain r5 : x0_ 5 = .int .i64 ((k : Nat) : Int) := hr0 5 (by decide) rfl rfl
      obtain r6 : x0_ 6 = .pointer (some ⟨b18, o19 + k * 3, none⟩) := hr0 6 (by decide) rfl rfl
      obtain r7 : x0_ 7 = .agg #[.int .i64 (xs[k].f0), .int .i64 (xs[k].f1), .string ⟨(xs[k].f2).toArray⟩] := hr0 7 (by decide) rfl rfl
      obtain r8 : x0_ 8 = .bool false := hr0 8 (by decide) rfl rfl
      clear hr0
      replace hB := hB.trans (hb_w22.mono hB.size)
      clear hb_w22
      intro xv_ a13 hρ hsz hdf qx_ ql_ qk_ qlk_
      replace s0 : a13.eval (.tmp 0) = .slice A n c := (hρ.inn 0 rfl).trans s0
      replace s1 : a13.eval (.tmp 1) = .slice B m d := (hρ.inn 1 rfl).trans s1
      replace s4 : a13.eval (.tmp 4) = .bool false := (hρ.inn 4 rfl).trans s4
      replace s5 : a13.eval (.tmp 5) = .int .i64 ((k : Nat) : Int) := (hρ.inn 5 rfl).trans s5
      replace s14 : a13.eval (.tmp 14) = .bool true := (hρ.inn 14 rfl).trans s14
      have s25 : a13.eval (.tmp 25) = .bool false := (hρ.out 8 25 rfl (by rw [hs.size]; decide)).trans ((qx_ 8 (by decide) rfl rfl).trans r8)
      replace hs : St 26 a13 := ⟨hsz.trans hs.size, hdf.trans hs.nodef⟩
      clear hρ hsz hdf qx_ ql_ qk_ qlk_
      refine hK13 _ _ ?_
      clear hK13
      refine c_false s25 ?_
      refine wp_skip ?_
      refine hK12 _ _ ?_
      clear hK12
      refine wp_region_lit ?_
      refine q_val rfl rfl ?_
      refine g_move rfl s5 ?_
      intro a14 p14
      have s15 : a14.eval (.tmp 15) = .int .i64 ((k : Nat) : Int) := p14.at hs (by decide)
      replace hs := p14.st hs
      refine q_val rfl rfl ?_
      refine g_add (r := ((k + 1 : Nat) : Int)) rfl s15 rfl (by omega) (by omega) ?_
      intro a15 p15
      have s16 : a15.eval (.tmp 16) = .int .i64 ((k + 1 : Nat) : Int) := p15.at hs (by decide)
      replace hs := p15.st hs
      refine q_val rfl rfl ?_
      refine g_assign rfl s16 ?_
      intro a16 p16
      have s5 : a16.eval (.tmp 5) = .int .i64 ((k + 1 : Nat) : Int) := p16.at hs (by decide)
      replace hs := p16.st hs
      refine wpList_nil ?_
      replace s0 : a16.eval (.tmp 0) = .slice A n c := ((p16.ne rfl).trans ((p15.ne rfl).trans (p14.ne rfl))).trans s0
      replace s1 : a16.eval (.tmp 1) = .slice B m d := ((p16.ne rfl).trans ((p15.ne rfl).trans (p14.ne rfl))).trans s1
      replace s4 : a16.eval (.tmp 4) = .bool false := ((p16.ne rfl).trans ((p15.ne rfl).trans (p14.ne rfl))).trans s4
      replace s14 : a16.eval (.tmp 14) = .bool true := ((p16.ne rfl).trans ((p15.ne rfl).trans (p14.ne rfl))).trans s14
      replace s25 : a16.eval (.tmp 25) = .bool false := ((p16.ne rfl).trans ((p15.ne rfl).trans (p14.ne rfl))).trans s25
      refine show _ ∧ _ from ⟨⟨k + 1, hs, s0, s1, s4, s5, hB, (by omega)⟩, ?_⟩
      show n - (intOf (a16.eval (.tmp 5))).toNat < n - (intOf (a8.eval (.tmp 5))).toNat
      rw [s5, mu8]
      simp only [intOf]
      omega
  · replace s14 := s14.trans (congrArg Value.bool (decide_eq_false hc11))
    replace s14 : a12.eval (.tmp 14) = .bool false := s14
    refine c_false s14 ?_
    refine wp_exit ?_
    refine hK4 _ _ ?_
    clear hK4
    refine wp_seq_k fun K23 hK23 => ?_
    refine wp_region_lit ?_
    refine q_val rfl rfl ?_
    refine g_assign rfl rfl ?_
    intro a13 p13
    have s4 : a13.eval (.tmp 4) = .bool true := p13.at hs (by decide)
    replace hs := p13.st hs
    refine wpList_nil ?_
    refine hK23 _ _ ?_
    clear hK23
    refine wp_ret ?_
    try dsimp only [Exit.then, Exit.inBlock]
    refine ret1 hs Try.results15 (res_tmp s4) ?_
    exact ⟨rfl, hB⟩
end Go.Proofs.Ytmcgmiapbdoocaa
