/- A recorder that is filled: what is dropped is of lesser priority, nothing is lost, and it stays valid. No condition. -/
import Derived.Test.YtnjopeonmenopaaRecG
import Derived.Test.YtnjopeonmenopaaFlowHead
import Derived.Test.YtnjopeonmenopaaRecEq
namespace Go.Proofs.Ytnjopeonmenopaa
open Go.RowKit

theorem recOk_small {x : ERecord} {k : Nat} (h0 : x.f0 = (k : Int)) (hk : k ≤ 60000) (h1 : 0 ≤ x.f1 ∧ x.f1 ≤ 3) (h2 : x.f2 = 0) (h3 : x.f3.length ≤ 34) : recOk x.f0 x.f1 x.f2 x.f3 = true := by
  unfold recOk
  rw [h0, h2, inB_mk (show (0 : Int) ≤ (k : Int) by omega) (by omega), inB_mk h1.1 h1.2, inB_mk (by decide) (by decide), decide_eq_true (by omega)]
  rfl
theorem mem_new {es ds gone : List Int} {i : Nat} (h : es = ds ++ gone) (hi : i < es.length) (h2 : ds.length ≤ i) : es[i] ∈ gone := by
  subst h
  rw [List.getElem_append_right h2]
  exact List.getElem_mem _
set_option maxRecDepth 100000 in
set_option maxHeartbeats 8000000 in
theorem fnRecorder_walk {w : World} (A : Option Addr) (n c : Nat) (bs : List UInt8) (hlen : bs.length = n) (hnc : n ≤ c) (hcm : c ≤ maxLen) (hr_cc : Rd w 1 A n (bs.flatMap cB)) :
    Calls Try.prog 9 #[.slice A n c] w fun e w' => e = .returned (.bool true) ∧ Below w.heap.size w w' := by
  have hcm2 := hcm
  unfold maxLen at hcm2
  refine enter 152 Try.func9 rfl rfl (Nat.le_of_ble_eq_true rfl) ?_
  intro a0 hs hargs
  have s0 : a0.eval (.tmp 0) = .slice A n c := hargs 0 _ rfl
  clear hargs
  have hB : Below w.heap.size w w := Below.refl _ _
  refine wp_seq_k fun K1 hK1 => ?_
  refine wp_region_lit ?_
  refine q_val rfl rfl ?_
  refine g_assign rfl rfl ?_
  intro a1 p1
  have s2 : a1.eval (.tmp 2) = .bool false := p1.at hs (by decide)
  replace hs := p1.st hs
  refine wpList_nil ?_
  replace s0 : a1.eval (.tmp 0) = .slice A n c := (p1.ne rfl).trans s0
  refine hK1 _ _ ?_
  clear hK1
  refine wp_seq_k fun K2 hK2 => ?_
  refine wp_seq_k fun K3 hK3 => ?_
  refine wp_region_lit ?_
  refine q_val rfl rfl ?_
  refine g_move rfl s0 ?_
  intro a2 p2
  have s12 : a2.eval (.tmp 12) = .slice A n c := p2.at hs (by decide)
  replace hs := p2.st hs
  refine q_val rfl rfl ?_
  refine g_call rfl rfl Try.call32 (arr1 s12) ?_
  refine (big_any _ _ _ _ (by omega)).mono ?_
  rintro e w' ⟨rfl, rfl⟩
  refine ⟨_, rfl, ?_⟩
  intro a3 p3
  have s13 : a3.eval (.tmp 13) = .bool (decide (1048576 < ((n : Nat) : Int))) := p3.at hs (by decide)
  replace hs := p3.st hs
  refine wpList_nil ?_
  replace s0 : a3.eval (.tmp 0) = .slice A n c := ((p3.ne rfl).trans (p2.ne rfl)).trans s0
  replace s2 : a3.eval (.tmp 2) = .bool false := ((p3.ne rfl).trans (p2.ne rfl)).trans s2
  refine hK3 _ _ ?_
  clear hK3
  by_cases hbig : 1048576 < ((n : Nat) : Int)
  · replace s13 := s13.trans (congrArg Value.bool (decide_eq_true hbig))
    replace s13 : a3.eval (.tmp 13) = .bool true := s13
    refine c_true s13 ?_
    refine wp_seq_k fun K4 hK4 => ?_
    refine wp_region_lit ?_
    refine q_val rfl rfl ?_
    refine g_assign rfl rfl ?_
    intro a4 p4
    have s2 : a4.eval (.tmp 2) = .bool true := p4.at hs (by decide)
    replace hs := p4.st hs
    refine wpList_nil ?_
    replace s0 : a4.eval (.tmp 0) = .slice A n c := (p4.ne rfl).trans s0
    refine hK4 _ _ ?_
    clear hK4
    refine wp_ret ?_
    try dsimp only [Exit.then, Exit.inBlock]
    refine ret1 hs Try.results9 (res_tmp s2) ?_
    exact ⟨rfl, hB⟩
  · replace s13 := s13.trans (congrArg Value.bool (decide_eq_false hbig))
    replace s13 : a3.eval (.tmp 13) = .bool false := s13
    refine c_false s13 ?_
    refine wp_skip ?_
    refine hK2 _ _ ?_
    clear hK2
    refine wp_seq_k fun K5 hK5 => ?_
    have ha0 := atN_le bs 0
    refine wp_region_lit ?_
    refine q_val rfl rfl ?_
    refine g_move rfl s0 ?_
    intro a4 p4
    have s14 : a4.eval (.tmp 14) = .slice A n c := p4.at hs (by decide)
    replace hs := p4.st hs
    refine q_val rfl rfl ?_
    refine g_call rfl rfl Try.call33 (arr2 s14 rfl) ?_
    refine (at_nat hlen hnc hcm (hr_cc.below hB) 0 (by omega)).mono ?_
    rintro e w' ⟨rfl, rfl⟩
    refine ⟨_, rfl, ?_⟩
    intro a5 p5
    have s15 : a5.eval (.tmp 15) = .int .i64 ((atN bs (0) : Nat) : Int) := p5.at hs (by decide)
    replace hs := p5.st hs
    refine q_val rfl rfl ?_
    refine g_add (r := 30 + ((atN bs (0) : Nat) : Int)) rfl rfl s15 (by omega) (by omega) ?_
    intro a6 p6
    have s16 : a6.eval (.tmp 16) = .int .i64 (30 + ((atN bs (0) : Nat) : Int)) := p6.at hs (by decide)
    replace hs := p6.st hs
    refine q_val rfl rfl ?_
    refine g_build (cells := #[.int .i64 (30 + ((atN bs (0) : Nat) : Int)), .slice none 0 0, .slice none 0 0]) rfl (arrB1 s16) (by kernel_rfl) ?_
    intro a7 p7
    have s17 : a7.eval (.tmp 17) = .agg #[.int .i64 (30 + ((atN bs (0) : Nat) : Int)), .slice none 0 0, .slice none 0 0] := p7.at hs (by decide)
    replace hs := p7.st hs
    refine q_val rfl rfl ?_
    refine g_alloc rfl Try.zeroValue50 rfl ?_
    intro q6 w7 N_q6
    have g_q6 : GeB w.heap.size q6 := ⟨Nat.le_trans hB.size N_q6.lo⟩
    replace hB := below_new hB hB.size N_q6
    have h_q6 := N_q6.here
    clear N_q6
    intro a8 p8
    have s3 : a8.eval (.tmp 3) = .pointer (some ⟨q6, 0, none⟩) := p8.at hs (by decide)
    replace hs := p8.st hs
    refine q_eff rfl rfl ?_
    refine g_storeB rfl s3 ((p8.ne rfl).trans s17) Try.sizeOf50 rfl rfl h_q6 rfl ?_
    intro w8 W_w8
    replace h_q6 := W_w8.here
    replace hB := below_wrote hB hB.size W_w8 g_q6.le
    clear W_w8
    refine wpList_nil ?_
    replace s0 : a8.eval (.tmp 0) = .slice A n c := ((p8.ne rfl).trans ((p7.ne rfl).trans ((p6.ne rfl).trans ((p5.ne rfl).trans (p4.ne rfl))))).trans s0
    replace s2 : a8.eval (.tmp 2) = .bool false := ((p8.ne rfl).trans ((p7.ne rfl).trans ((p6.ne rfl).trans ((p5.ne rfl).trans (p4.ne rfl))))).trans s2
    refine hK5 _ _ ?_
    clear hK5
    refine wp_seq_k fun K9 hK9 => ?_
    refine wp_seq_k fun K10 hK10 => ?_
    obtain ⟨room, hroom⟩ : ∃ room : Int, room = 30 + ((atN bs (0) : Nat) : Int) := ⟨_, rfl⟩
    rw [← hroom] at h_q6
    have o_z : w8.ownsRow w.heap.size 26 4 (.slice none 0 0) 0 ([].flatMap cRecord) := World.ownsRow_nil _ _ _ _
    have g_z : ∀ b, (none : Option Addr).map (·.block) = some b → w.heap.size ≤ b := fun b h => by cases h
    have d_z_q6 : (none : Option Addr).map (·.block) ≠ some q6 := fun h => by cases h
    have o_d : w8.ownsRow w.heap.size 3 1 (.slice none 0 0) 0 ([].flatMap cI) := World.ownsRow_nil _ _ _ _
    have g_d : ∀ b, (none : Option Addr).map (·.block) = some b → w.heap.size ≤ b := fun b h => by cases h
    have d_d_q6 : (none : Option Addr).map (·.block) ≠ some q6 := fun h => by cases h
    have m_z_d : ∀ b, (none : Option Addr).map (·.block) = some b → (none : Option Addr).map (·.block) ≠ some b := fun b h => by cases h
    have m_d_z : ∀ b, (none : Option Addr).map (·.block) = some b → (none : Option Addr).map (·.block) ≠ some b := fun b h => by cases h
    refine wp_region_lit ?_
    refine q_val rfl rfl ?_
    refine g_assign rfl rfl ?_
    intro a9 p9
    have s4 : a9.eval (.tmp 4) = .int .i64 0 := p9.at hs (by decide)
    replace hs := p9.st hs
    refine wpList_nil ?_
    replace s0 : a9.eval (.tmp 0) = .slice A n c := (p9.ne rfl).trans s0
    replace s2 : a9.eval (.tmp 2) = .bool false := (p9.ne rfl).trans s2
    replace s3 : a9.eval (.tmp 3) = .pointer (some ⟨q6, 0, none⟩) := (p9.ne rfl).trans s3
    refine hK10 _ _ ?_
    clear hK10
    refine wp_block ?_
    refine wp_loop (fun a wr => ∃ (k : Nat) (zs : List ERecord) (ds : List Int) (Z : Option Addr) (cz : Nat) (D : Option Addr) (cd : Nat), (St 152 a) ∧ (a.eval (.tmp 0) = .slice A n c) ∧ (a.eval (.tmp 2) = .bool false) ∧ (a.eval (.tmp 3) = .pointer (some ⟨q6, 0, none⟩)) ∧ (a.eval (.tmp 4) = .int .i64 ((k : Nat) : Int)) ∧ (Below w.heap.size w wr) ∧ (wr.heap[q6]? = some (.cells #[.int .i64 room, .slice Z zs.length cz, .slice D ds.length cd] 50 (0, 0))) ∧ (wr.ownsRow w.heap.size 26 4 (.slice Z zs.length cz) zs.length (zs.flatMap cRecord)) ∧ (wr.ownsRow w.heap.size 3 1 (.slice D ds.length cd) ds.length (ds.flatMap cI)) ∧ ((Z : Option Addr).map (·.block) ≠ some q6) ∧ (∀ b, (D : Option Addr).map (·.block) = some b → (Z : Option Addr).map (·.block) ≠ some b) ∧ (∀ b, (Z : Option Addr).map (·.block) = some b → w.heap.size ≤ b) ∧ ((D : Option Addr).map (·.block) ≠ some q6) ∧ (∀ b, (Z : Option Addr).map (·.block) = some b → (D : Option Addr).map (·.block) ≠ some b) ∧ (∀ b, (D : Option Addr).map (·.block) = some b → w.heap.size ≤ b) ∧ (RecG room zs ds k) ∧ (k ≤ 20)) (fun a _ => 20 - (intOf (a.eval (.tmp 4))).toNat) (⟨0, [], [], none, 0, none, 0, hs, s0, s2, s3, s4, hB, h_q6, o_z, o_d, d_z_q6, m_d_z, g_z, d_d_q6, m_z_d, g_d, (RecG.nil (by omega)), (by omega)⟩) ?_
    intro a10 w12 hI
    obtain ⟨k, zs, ds, Z, cz, D, cd, hs, s0, s2, s3, s4, hB, h_q6, o_z, o_d, d_z_q6, m_d_z, g_z, d_d_q6, m_z_d, g_d, hG, hk⟩ := hI
    have mu13 := s4
    refine wp_seq_k fun K14 hK14 => ?_
    refine wp_seq_k fun K15 hK15 => ?_
    refine wp_region_lit ?_
    refine q_val rfl rfl ?_
    refine g_move rfl s4 ?_
    intro a11 p11
    have s18 : a11.eval (.tmp 18) = .int .i64 ((k : Nat) : Int) := p11.at hs (by decide)
    replace hs := p11.st hs
    refine q_val rfl rfl ?_
    refine g_lss rfl s18 rfl ?_
    intro a12 p12
    have s19 : a12.eval (.tmp 19) = .bool (decide (((k : Nat) : Int) < 20)) := p12.at hs (by decide)
    replace hs := p12.st hs
    refine wpList_nil ?_
    replace s0 : a12.eval (.tmp 0) = .slice A n c := ((p12.ne rfl).trans (p11.ne rfl)).trans s0
    replace s2 : a12.eval (.tmp 2) = .bool false := ((p12.ne rfl).trans (p11.ne rfl)).trans s2
    replace s3 : a12.eval (.tmp 3) = .pointer (some ⟨q6, 0, none⟩) := ((p12.ne rfl).trans (p11.ne rfl)).trans s3
    replace s4 : a12.eval (.tmp 4) = .int .i64 ((k : Nat) : Int) := ((p12.ne rfl).trans (p11.ne rfl)).trans s4
    refine hK15 _ _ ?_
    clear hK15
    by_cases hc16 : ((k : Nat) : Int) < 20
    · replace s19 := s19.trans (congrArg Value.bool (decide_eq_true hc16))
      replace s19 : a12.eval (.tmp 19) = .bool true := s19
      refine c_true s19 ?_
      refine wp_skip ?_
      refine hK14 _ _ ?_
      clear hK14
      refine wp_seq_k fun K17 hK17 => ?_
      refine wp_block ?_
      refine wp_seq_k fun K18 hK18 => ?_
      have hk20 : k < 20 := by omega
      have hak := atN_le bs k
      have hak1 := atN_le bs (k + 1)
      refine wp_region_lit ?_
      refine q_val rfl rfl ?_
      refine g_move rfl s4 ?_
      intro a13 p13
      have s22 : a13.eval (.tmp 22) = .int .i64 ((k : Nat) : Int) := p13.at hs (by decide)
      replace hs := p13.st hs
      refine q_val rfl rfl ?_
      refine g_move rfl ((p13.ne rfl).trans s0) ?_
      intro a14 p14
      have s23 : a14.eval (.tmp 23) = .slice A n c := p14.at hs (by decide)
      replace hs := p14.st hs
      refine q_val rfl rfl ?_
      refine g_move rfl (((p14.ne rfl).trans (p13.ne rfl)).trans s4) ?_
      intro a15 p15
      have s24 : a15.eval (.tmp 24) = .int .i64 ((k : Nat) : Int) := p15.at hs (by decide)
      replace hs := p15.st hs
      refine q_val rfl rfl ?_
      refine g_call rfl rfl Try.call33 (arr2 ((p15.ne rfl).trans s23) s24) ?_
      refine (at_nat hlen hnc hcm (hr_cc.below hB) k (by omega)).mono ?_
      rintro e w' ⟨rfl, rfl⟩
      refine ⟨_, rfl, ?_⟩
      intro a16 p16
      have s25 : a16.eval (.tmp 25) = .int .i64 ((atN bs (k) : Nat) : Int) := p16.at hs (by decide)
      replace hs := p16.st hs
      refine q_val rfl rfl ?_
      refine g_rem (N := atN bs (k)) (M := 4) rfl s25 rfl (by omega) rfl (by decide) (by decide) ?_
      intro a17 p17
      have s26 : a17.eval (.tmp 26) = .int .i64 (((atN bs (k)) % 4 : Nat) : Int) := p17.at hs (by decide)
      replace hs := p17.st hs
      refine q_val rfl rfl ?_
      refine g_move rfl (((p17.ne rfl).trans ((p16.ne rfl).trans ((p15.ne rfl).trans ((p14.ne rfl).trans (p13.ne rfl))))).trans s0) ?_
      intro a18 p18
      have s27 : a18.eval (.tmp 27) = .slice A n c := p18.at hs (by decide)
      replace hs := p18.st hs
      refine q_val rfl rfl ?_
      refine g_move rfl (((p18.ne rfl).trans ((p17.ne rfl).trans ((p16.ne rfl).trans ((p15.ne rfl).trans ((p14.ne rfl).trans (p13.ne rfl)))))).trans s4) ?_
      intro a19 p19
      have s28 : a19.eval (.tmp 28) = .int .i64 ((k : Nat) : Int) := p19.at hs (by decide)
      replace hs := p19.st hs
      refine q_val rfl rfl ?_
      refine g_add (r := ((k + 1 : Nat) : Int)) rfl s28 rfl (by omega) (by omega) ?_
      intro a20 p20
      have s29 : a20.eval (.tmp 29) = .int .i64 ((k + 1 : Nat) : Int) := p20.at hs (by decide)
      replace hs := p20.st hs
      refine q_val rfl rfl ?_
      refine g_call rfl rfl Try.call33 (arr2 (((p20.ne rfl).trans (p19.ne rfl)).trans s27) s29) ?_
      refine (at_nat hlen hnc hcm (hr_cc.below hB) (k + 1) (by omega)).mono ?_
      rintro e w' ⟨rfl, rfl⟩
      refine ⟨_, rfl, ?_⟩
      intro a21 p21
      have s30 : a21.eval (.tmp 30) = .int .i64 ((atN bs (k + 1) : Nat) : Int) := p21.at hs (by decide)
      replace hs := p21.st hs
      refine q_val rfl rfl ?_
      refine g_rem (N := atN bs (k + 1)) (M := 10) rfl s30 rfl (by omega) rfl (by decide) (by decide) ?_
      intro a22 p22
      have s31 : a22.eval (.tmp 31) = .int .i64 (((atN bs (k + 1)) % 10 : Nat) : Int) := p22.at hs (by decide)
      replace hs := p22.st hs
      refine q_val rfl rfl ?_
      refine g_headS (N := (atN bs (k + 1)) % 10) rfl rfl s31 Try.underlying9 (by simp only [List.length_cons, List.length_nil]; omega) ?_
      intro a23 p23
      have s32 : a23.eval (.tmp 32) = .string ⟨(([48, 49, 50, 51, 52, 53, 54, 55, 56, 57]).take ((atN bs (k + 1)) % 10)).toArray⟩ := p23.at hs (by decide)
      replace hs := p23.st hs
      refine q_val rfl rfl ?_
      refine g_build (cells := #[.int .i64 ((k : Nat) : Int), .int .i64 (((atN bs (k)) % 4 : Nat) : Int), .int .i64 0, .string ⟨(([48, 49, 50, 51, 52, 53, 54, 55, 56, 57]).take ((atN bs (k + 1)) % 10)).toArray⟩]) rfl (arrB3 (((p23.ne rfl).trans ((p22.ne rfl).trans ((p21.ne rfl).trans ((p20.ne rfl).trans ((p19.ne rfl).trans ((p18.ne rfl).trans ((p17.ne rfl).trans ((p16.ne rfl).trans ((p15.ne rfl).trans (p14.ne rfl)))))))))).trans s22) (((p23.ne rfl).trans ((p22.ne rfl).trans ((p21.ne rfl).trans ((p20.ne rfl).trans ((p19.ne rfl).trans (p18.ne rfl)))))).trans s26) s32) (by kernel_rfl) ?_
      intro a24 p24
      have s33 : a24.eval (.tmp 33) = .agg #[.int .i64 ((k : Nat) : Int), .int .i64 (((atN bs (k)) % 4 : Nat) : Int), .int .i64 0, .string ⟨(([48, 49, 50, 51, 52, 53, 54, 55, 56, 57]).take ((atN bs (k + 1)) % 10)).toArray⟩] := p24.at hs (by decide)
      replace hs := p24.st hs
      refine q_val rfl rfl ?_
      refine g_alloc rfl Try.zeroValue26 rfl ?_
      intro q19 w20 N_q19
      have n_q6_q19 := N_q19.ne ⟨lt_of_block h_q6⟩
      have n_q19_q6 := n_q6_q19.symm
      have d_z_q19 := own_ne_new o_z N_q19
      have d_d_q19 := own_ne_new o_d N_q19
      have g_q19 : GeB w.heap.size q19 := ⟨Nat.le_trans hB.size N_q19.lo⟩
      replace h_q6 := keep_below h_q6 N_q19.below
      replace o_z := own_below o_z N_q19.below
      replace o_d := own_below o_d N_q19.below
      replace hB := below_new hB hB.size N_q19
      have h_q19 := N_q19.here
      clear N_q19
      intro a25 p25
      have s5 : a25.eval (.tmp 5) = .pointer (some ⟨q19, 0, none⟩) := p25.at hs (by decide)
      replace hs := p25.st hs
      refine q_eff rfl rfl ?_
      refine g_storeB rfl s5 ((p25.ne rfl).trans s33) Try.sizeOf26 rfl rfl h_q19 rfl ?_
      intro w21 W_w21
      replace h_q6 := keep_wrote h_q6 W_w21 n_q19_q6
      replace h_q19 := W_w21.here
      replace o_z := own_wrote o_z W_w21 d_z_q19
      replace o_d := own_wrote o_d W_w21 d_d_q19
      replace hB := below_wrote hB hB.size W_w21 g_q19.le
      clear W_w21
      refine wpList_nil ?_
      replace s0 : a25.eval (.tmp 0) = .slice A n c := ((p25.ne rfl).trans ((p24.ne rfl).trans ((p23.ne rfl).trans ((p22.ne rfl).trans ((p21.ne rfl).trans ((p20.ne rfl).trans ((p19.ne rfl).trans ((p18.ne rfl).trans ((p17.ne rfl).trans ((p16.ne rfl).trans ((p15.ne rfl).trans ((p14.ne rfl).trans (p13.ne rfl))))))))))))).trans s0
      replace s2 : a25.eval (.tmp 2) = .bool false := ((p25.ne rfl).trans ((p24.ne rfl).trans ((p23.ne rfl).trans ((p22.ne rfl).trans ((p21.ne rfl).trans ((p20.ne rfl).trans ((p19.ne rfl).trans ((p18.ne rfl).trans ((p17.ne rfl).trans ((p16.ne rfl).trans ((p15.ne rfl).trans ((p14.ne rfl).trans (p13.ne rfl))))))))))))).trans s2
      replace s3 : a25.eval (.tmp 3) = .pointer (some ⟨q6, 0, none⟩) := ((p25.ne rfl).trans ((p24.ne rfl).trans ((p23.ne rfl).trans ((p22.ne rfl).trans ((p21.ne rfl).trans ((p20.ne rfl).trans ((p19.ne rfl).trans ((p18.ne rfl).trans ((p17.ne rfl).trans ((p16.ne rfl).trans ((p15.ne rfl).trans ((p14.ne rfl).trans (p13.ne rfl))))))))))))).trans s3
      replace s4 : a25.eval (.tmp 4) = .int .i64 ((k : Nat) : Int) := ((p25.ne rfl).trans ((p24.ne rfl).trans ((p23.ne rfl).trans ((p22.ne rfl).trans ((p21.ne rfl).trans ((p20.ne rfl).trans ((p19.ne rfl).trans ((p18.ne rfl).trans ((p17.ne rfl).trans ((p16.ne rfl).trans ((p15.ne rfl).trans ((p14.ne rfl).trans (p13.ne rfl))))))))))))).trans s4
      replace s19 : a25.eval (.tmp 19) = .bool true := ((p25.ne rfl).trans ((p24.ne rfl).trans ((p23.ne rfl).trans ((p22.ne rfl).trans ((p21.ne rfl).trans ((p20.ne rfl).trans ((p19.ne rfl).trans ((p18.ne rfl).trans ((p17.ne rfl).trans ((p16.ne rfl).trans ((p15.ne rfl).trans ((p14.ne rfl).trans (p13.ne rfl))))))))))))).trans s19
      refine hK18 _ _ ?_
      clear hK18
      refine wp_seq_k fun K22 hK22 => ?_
      obtain ⟨x, hxe⟩ : ∃ x : ERecord, x = ⟨((k : Nat) : Int), (((atN bs (k)) % 4 : Nat) : Int), 0, ([48, 49, 50, 51, 52, 53, 54, 55, 56, 57]).take ((atN bs (k + 1)) % 10)⟩ := ⟨_, rfl⟩
      replace h_q19 : w21.heap[q19]? = some (.cells #[.int .i64 x.f0, .int .i64 x.f1, .int .i64 x.f2, .string ⟨(x.f3).toArray⟩] 26 (0, 0)) := by rw [hxe]; exact h_q19
      have hid : x.f0 = (k : Int) := by rw [hxe]
      have hxl : x.f3.length ≤ 9 := by rw [hxe]; simp only [List.length_take]; omega
      have hrok : recOk x.f0 x.f1 x.f2 x.f3 = true := recOk_small hid (by omega) (by rw [hxe]; exact ⟨by simp only; omega, by simp only; omega⟩) (by rw [hxe]) (by omega)
      refine wp_region_lit ?_
      refine q_val rfl rfl ?_
      refine g_field (r := 3) rfl s5 Try.underlying26 rfl (fun w => Try.sizeOf9 w) rfl rfl ?_
      intro a26 p26
      have s34 : a26.eval (.tmp 34) = .pointer (some ⟨q19, 3, none⟩) := p26.at hs (by decide)
      replace hs := p26.st hs
      refine q_val rfl rfl ?_
      refine g_load rfl s34 Try.isAgg9 (box_cell h_q19 rfl) ?_
      intro a27 p27
      have s35 : a27.eval (.tmp 35) = .string ⟨(x.f3).toArray⟩ := p27.at hs (by decide)
      replace hs := p27.st hs
      refine q_val rfl rfl ?_
      refine g_lenS rfl Try.underlying9 s35 ?_
      intro a28 p28
      have s36 : a28.eval (.tmp 36) = .int .i64 (((x.f3).length : Nat) : Int) := p28.at hs (by decide)
      replace hs := p28.st hs
      refine q_val rfl rfl ?_
      refine g_add (r := 6 + (((x.f3).length : Nat) : Int)) rfl rfl s36 (by omega) (by omega) ?_
      intro a29 p29
      have s37 : a29.eval (.tmp 37) = .int .i64 (6 + (((x.f3).length : Nat) : Int)) := p29.at hs (by decide)
      replace hs := p29.st hs
      refine q_val rfl rfl ?_
      refine g_assign rfl s37 ?_
      intro a30 p30
      have s6 : a30.eval (.tmp 6) = .int .i64 (6 + (((x.f3).length : Nat) : Int)) := p30.at hs (by decide)
      replace hs := p30.st hs
      refine wpList_nil ?_
      replace s0 : a30.eval (.tmp 0) = .slice A n c := ((p30.ne rfl).trans ((p29.ne rfl).trans ((p28.ne rfl).trans ((p27.ne rfl).trans (p26.ne rfl))))).trans s0
      replace s2 : a30.eval (.tmp 2) = .bool false := ((p30.ne rfl).trans ((p29.ne rfl).trans ((p28.ne rfl).trans ((p27.ne rfl).trans (p26.ne rfl))))).trans s2
      replace s3 : a30.eval (.tmp 3) = .pointer (some ⟨q6, 0, none⟩) := ((p30.ne rfl).trans ((p29.ne rfl).trans ((p28.ne rfl).trans ((p27.ne rfl).trans (p26.ne rfl))))).trans s3
      replace s4 : a30.eval (.tmp 4) = .int .i64 ((k : Nat) : Int) := ((p30.ne rfl).trans ((p29.ne rfl).trans ((p28.ne rfl).trans ((p27.ne rfl).trans (p26.ne rfl))))).trans s4
      replace s19 : a30.eval (.tmp 19) = .bool true := ((p30.ne rfl).trans ((p29.ne rfl).trans ((p28.ne rfl).trans ((p27.ne rfl).trans (p26.ne rfl))))).trans s19
      replace s5 : a30.eval (.tmp 5) = .pointer (some ⟨q19, 0, none⟩) := ((p30.ne rfl).trans ((p29.ne rfl).trans ((p28.ne rfl).trans ((p27.ne rfl).trans (p26.ne rfl))))).trans s5
      refine hK22 _ _ ?_
      clear hK22
      refine wp_seq_k fun K23 hK23 => ?_
      refine wp_region_lit ?_
      refine q_val rfl rfl ?_
      refine g_loadB rfl s3 Try.isAgg50 Try.sizeOf50 rfl h_q6 ?_
      intro a31 p31
      have s38 : a31.eval (.tmp 38) = .agg #[.int .i64 room, .slice Z zs.length cz, .slice D ds.length cd] := p31.at hs (by decide)
      replace hs := p31.st hs
      refine q_val rfl rfl ?_
      refine g_loadB rfl ((p31.ne rfl).trans s5) Try.isAgg26 Try.sizeOf26 rfl h_q19 ?_
      intro a32 p32
      have s39 : a32.eval (.tmp 39) = .agg #[.int .i64 x.f0, .int .i64 x.f1, .int .i64 x.f2, .string ⟨(x.f3).toArray⟩] := p32.at hs (by decide)
      replace hs := p32.st hs
      refine q_val rfl rfl ?_
      refine g_call rfl rfl Try.call34 (arr2 ((p32.ne rfl).trans s38) s39) ?_
      refine (keepRecord_g (k := k) hG (by omega) hrok hid rfl (own_cap o_z).1 (Rd.of_own o_z) (own_nil o_z) rfl (own_nil o_d) (Rd.of_own o_d)).mono ?_
      rintro e w25 ⟨ys, es, gone, A24, c24, B24, d24, rfl, o_zy, o_dy, hG2, hg1, hg2, hg3, hb24⟩
      refine ⟨_, rfl, ?_⟩
      have m_zy_dy := own_ne_type o_zy o_dy (by decide)
      have m_dy_zy := ne_row_symm m_zy_dy
      have d_zy_q6 := own_ne_box o_zy (lt_of_block h_q6)
      have d_zy_q19 := own_ne_box o_zy (lt_of_block h_q19)
      have m_z_zy := own_ne_row o_z o_zy (Nat.le_refl _)
      have m_zy_z := ne_row_symm m_z_zy
      have m_d_zy := own_ne_row o_d o_zy (Nat.le_refl _)
      have m_zy_d := ne_row_symm m_d_zy
      have g_zy : ∀ b, (A24 : Option Addr).map (·.block) = some b → w.heap.size ≤ b := fun b h => Nat.le_trans hB.size (own_row o_zy b h).1
      replace o_zy := own_base (base := w.heap.size) o_zy hB.size
      have d_dy_q6 := own_ne_box o_dy (lt_of_block h_q6)
      have d_dy_q19 := own_ne_box o_dy (lt_of_block h_q19)
      have m_z_dy := own_ne_row o_z o_dy (Nat.le_refl _)
      have m_dy_z := ne_row_symm m_z_dy
      have m_d_dy := own_ne_row o_d o_dy (Nat.le_refl _)
      have m_dy_d := ne_row_symm m_d_dy
      have g_dy : ∀ b, (B24 : Option Addr).map (·.block) = some b → w.heap.size ≤ b := fun b h => Nat.le_trans hB.size (own_row o_dy b h).1
      replace o_dy := own_base (base := w.heap.size) o_dy hB.size
      replace h_q6 := keep_below h_q6 hb24
      replace h_q19 := keep_below h_q19 hb24
      replace o_z := own_below o_z hb24
      replace o_d := own_below o_d hb24
      replace hB := hB.trans (hb24.mono hB.size)
      clear hb24
      intro a33 p33
      have s40 : a33.eval (.tmp 40) = .agg #[.int .i64 room, .slice A24 ys.length c24, .slice B24 es.length d24] := p33.at hs (by decide)
      replace hs := p33.st hs
      refine q_val rfl rfl ?_
      refine g_alloc rfl Try.zeroValue50 rfl ?_
      intro q26 w27 N_q26
      have n_q6_q26 := N_q26.ne ⟨lt_of_block h_q6⟩
      have n_q26_q6 := n_q6_q26.symm
      have n_q19_q26 := N_q26.ne ⟨lt_of_block h_q19⟩
      have n_q26_q19 := n_q19_q26.symm
      have d_z_q26 := own_ne_new o_z N_q26
      have d_d_q26 := own_ne_new o_d N_q26
      have d_zy_q26 := own_ne_new o_zy N_q26
      have d_dy_q26 := own_ne_new o_dy N_q26
      have g_q26 : GeB w.heap.size q26 := ⟨Nat.le_trans hB.size N_q26.lo⟩
      replace h_q6 := keep_below h_q6 N_q26.below
      replace h_q19 := keep_below h_q19 N_q26.below
      replace o_z := own_below o_z N_q26.below
      replace o_d := own_below o_d N_q26.below
      replace o_zy := own_below o_zy N_q26.below
      replace o_dy := own_below o_dy N_q26.below
      replace hB := below_new hB hB.size N_q26
      have h_q26 := N_q26.here
      clear N_q26
      intro a34 p34
      have s7 : a34.eval (.tmp 7) = .pointer (some ⟨q26, 0, none⟩) := p34.at hs (by decide)
      replace hs := p34.st hs
      refine q_eff rfl rfl ?_
      refine g_storeB rfl s7 ((p34.ne rfl).trans s40) Try.sizeOf50 rfl rfl h_q26 rfl ?_
      intro w28 W_w28
      replace h_q6 := keep_wrote h_q6 W_w28 n_q26_q6
      replace h_q19 := keep_wrote h_q19 W_w28 n_q26_q19
      replace h_q26 := W_w28.here
      replace o_z := own_wrote o_z W_w28 d_z_q26
      replace o_d := own_wrote o_d W_w28 d_d_q26
      replace o_zy := own_wrote o_zy W_w28 d_zy_q26
      replace o_dy := own_wrote o_dy W_w28 d_dy_q26
      replace hB := below_wrote hB hB.size W_w28 g_q26.le
      clear W_w28
      refine wpList_nil ?_
      replace s0 : a34.eval (.tmp 0) = .slice A n c := ((p34.ne rfl).trans ((p33.ne rfl).trans ((p32.ne rfl).trans (p31.ne rfl)))).trans s0
      replace s2 : a34.eval (.tmp 2) = .bool false := ((p34.ne rfl).trans ((p33.ne rfl).trans ((p32.ne rfl).trans (p31.ne rfl)))).trans s2
      replace s3 : a34.eval (.tmp 3) = .pointer (some ⟨q6, 0, none⟩) := ((p34.ne rfl).trans ((p33.ne rfl).trans ((p32.ne rfl).trans (p31.ne rfl)))).trans s3
      replace s4 : a34.eval (.tmp 4) = .int .i64 ((k : Nat) : Int) := ((p34.ne rfl).trans ((p33.ne rfl).trans ((p32.ne rfl).trans (p31.ne rfl)))).trans s4
      replace s19 : a34.eval (.tmp 19) = .bool true := ((p34.ne rfl).trans ((p33.ne rfl).trans ((p32.ne rfl).trans (p31.ne rfl)))).trans s19
      replace s5 : a34.eval (.tmp 5) = .pointer (some ⟨q19, 0, none⟩) := ((p34.ne rfl).trans ((p33.ne rfl).trans ((p32.ne rfl).trans (p31.ne rfl)))).trans s5
      replace s6 : a34.eval (.tmp 6) = .int .i64 (6 + (((x.f3).length : Nat) : Int)) := ((p34.ne rfl).trans ((p33.ne rfl).trans ((p32.ne rfl).trans (p31.ne rfl)))).trans s6
      refine hK23 _ _ ?_
      clear hK23
      refine wp_seq_k fun K29 hK29 => ?_
      refine wp_seq_k fun K30 hK30 => ?_
      have hl := hG.len
      have hl2 := hG2.len
      refine wp_region_lit ?_
      refine q_val rfl rfl ?_
      refine g_field (r := 1) rfl s7 Try.underlying50 rfl (fun w => Try.sizeOf47 w) rfl rfl ?_
      intro a35 p35
      have s41 : a35.eval (.tmp 41) = .pointer (some ⟨q26, 1, none⟩) := p35.at hs (by decide)
      replace hs := p35.st hs
      refine q_val rfl rfl ?_
      refine g_load rfl s41 Try.isAgg47 (box_cell h_q26 rfl) ?_
      intro a36 p36
      have s42 : a36.eval (.tmp 42) = .slice A24 ys.length c24 := p36.at hs (by decide)
      replace hs := p36.st hs
      refine q_val rfl rfl ?_
      refine g_len (e := _) rfl Try.underlying47 s42 ?_
      intro a37 p37
      have s43 : a37.eval (.tmp 43) = .int .i64 ((ys.length : Nat) : Int) := p37.at hs (by decide)
      replace hs := p37.st hs
      refine q_val rfl rfl ?_
      refine g_field (r := 2) rfl (((p37.ne rfl).trans ((p36.ne rfl).trans (p35.ne rfl))).trans s7) Try.underlying50 rfl (fun w => Try.sizeOf48 w) rfl rfl ?_
      intro a38 p38
      have s44 : a38.eval (.tmp 44) = .pointer (some ⟨q26, 2, none⟩) := p38.at hs (by decide)
      replace hs := p38.st hs
      refine q_val rfl rfl ?_
      refine g_load rfl s44 Try.isAgg48 (box_cell h_q26 rfl) ?_
      intro a39 p39
      have s45 : a39.eval (.tmp 45) = .slice B24 es.length d24 := p39.at hs (by decide)
      replace hs := p39.st hs
      refine q_val rfl rfl ?_
      refine g_len (e := _) rfl Try.underlying48 s45 ?_
      intro a40 p40
      have s46 : a40.eval (.tmp 46) = .int .i64 ((es.length : Nat) : Int) := p40.at hs (by decide)
      replace hs := p40.st hs
      refine q_val rfl rfl ?_
      refine g_add (r := ((ys.length : Nat) : Int) + ((es.length : Nat) : Int)) rfl (((p40.ne rfl).trans ((p39.ne rfl).trans (p38.ne rfl))).trans s43) s46 (by omega) (by omega) ?_
      intro a41 p41
      have s47 : a41.eval (.tmp 47) = .int .i64 (((ys.length : Nat) : Int) + ((es.length : Nat) : Int)) := p41.at hs (by decide)
      replace hs := p41.st hs
      refine q_val rfl rfl ?_
      refine g_field (r := 1) rfl (((p41.ne rfl).trans ((p40.ne rfl).trans ((p39.ne rfl).trans ((p38.ne rfl).trans ((p37.ne rfl).trans ((p36.ne rfl).trans (p35.ne rfl))))))).trans s3) Try.underlying50 rfl (fun w => Try.sizeOf47 w) rfl rfl ?_
      intro a42 p42
      have s48 : a42.eval (.tmp 48) = .pointer (some ⟨q6, 1, none⟩) := p42.at hs (by decide)
      replace hs := p42.st hs
      refine q_val rfl rfl ?_
      refine g_load rfl s48 Try.isAgg47 (box_cell h_q6 rfl) ?_
      intro a43 p43
      have s49 : a43.eval (.tmp 49) = .slice Z zs.length cz := p43.at hs (by decide)
      replace hs := p43.st hs
      refine q_val rfl rfl ?_
      refine g_len (e := _) rfl Try.underlying47 s49 ?_
      intro a44 p44
      have s50 : a44.eval (.tmp 50) = .int .i64 ((zs.length : Nat) : Int) := p44.at hs (by decide)
      replace hs := p44.st hs
      refine q_val rfl rfl ?_
      refine g_field (r := 2) rfl (((p44.ne rfl).trans ((p43.ne rfl).trans ((p42.ne rfl).trans ((p41.ne rfl).trans ((p40.ne rfl).trans ((p39.ne rfl).trans ((p38.ne rfl).trans ((p37.ne rfl).trans ((p36.ne rfl).trans (p35.ne rfl)))))))))).trans s3) Try.underlying50 rfl (fun w => Try.sizeOf48 w) rfl rfl ?_
      intro a45 p45
      have s51 : a45.eval (.tmp 51) = .pointer (some ⟨q6, 2, none⟩) := p45.at hs (by decide)
      replace hs := p45.st hs
      refine q_val rfl rfl ?_
      refine g_load rfl s51 Try.isAgg48 (box_cell h_q6 rfl) ?_
      intro a46 p46
      have s52 : a46.eval (.tmp 52) = .slice D ds.length cd := p46.at hs (by decide)
      replace hs := p46.st hs
      refine q_val rfl rfl ?_
      refine g_len (e := _) rfl Try.underlying48 s52 ?_
      intro a47 p47
      have s53 : a47.eval (.tmp 53) = .int .i64 ((ds.length : Nat) : Int) := p47.at hs (by decide)
      replace hs := p47.st hs
      refine q_val rfl rfl ?_
      refine g_add (r := ((zs.length : Nat) : Int) + ((ds.length : Nat) : Int)) rfl (((p47.ne rfl).trans ((p46.ne rfl).trans (p45.ne rfl))).trans s50) s53 (by omega) (by omega) ?_
      intro a48 p48
      have s54 : a48.eval (.tmp 54) = .int .i64 (((zs.length : Nat) : Int) + ((ds.length : Nat) : Int)) := p48.at hs (by decide)
      replace hs := p48.st hs
      refine q_val rfl rfl ?_
      refine g_add (r := (((zs.length : Nat) : Int) + ((ds.length : Nat) : Int)) + 1) rfl s54 rfl (by omega) (by omega) ?_
      intro a49 p49
      have s55 : a49.eval (.tmp 55) = .int .i64 ((((zs.length : Nat) : Int) + ((ds.length : Nat) : Int)) + 1) := p49.at hs (by decide)
      replace hs := p49.st hs
      refine q_val rfl rfl ?_
      refine g_neq rfl (((p49.ne rfl).trans ((p48.ne rfl).trans ((p47.ne rfl).trans ((p46.ne rfl).trans ((p45.ne rfl).trans ((p44.ne rfl).trans ((p43.ne rfl).trans (p42.ne rfl)))))))).trans s47) s55 ?_
      intro a50 p50
      have s56 : a50.eval (.tmp 56) = .bool false := (p50.at hs (by decide)).trans (congrArg (fun b => Value.bool (!b)) (decide_eq_true (by omega)))
      replace hs := p50.st hs
      refine q_val rfl rfl ?_
      refine g_move rfl s56 ?_
      intro a51 p51
      have s57 : a51.eval (.tmp 57) = .bool false := p51.at hs (by decide)
      replace hs := p51.st hs
      refine q_take rfl rfl s57 rfl ?_
      refine g_loadB rfl (((p51.ne rfl).trans ((p50.ne rfl).trans ((p49.ne rfl).trans ((p48.ne rfl).trans ((p47.ne rfl).trans ((p46.ne rfl).trans ((p45.ne rfl).trans ((p44.ne rfl).trans ((p43.ne rfl).trans ((p42.ne rfl).trans ((p41.ne rfl).trans ((p40.ne rfl).trans ((p39.ne rfl).trans ((p38.ne rfl).trans ((p37.ne rfl).trans ((p36.ne rfl).trans (p35.ne rfl))))))))))))))))).trans s7) Try.isAgg50 Try.sizeOf50 rfl h_q26 ?_
      intro a52 p52
      have s58 : a52.eval (.tmp 58) = .agg #[.int .i64 room, .slice A24 ys.length c24, .slice B24 es.length d24] := p52.at hs (by decide)
      replace hs := p52.st hs
      refine q_take rfl rfl ((p52.ne rfl).trans s57) rfl ?_
      refine g_call rfl rfl Try.call35 (arr1 s58) ?_
      refine (recorderOk_g hG2 (by omega) rfl (Rd.of_own o_zy) rfl (Rd.of_own o_dy)).mono ?_
      rintro e w32 ⟨rfl, hb31⟩
      refine ⟨_, rfl, ?_⟩
      replace h_q6 := keep_below h_q6 hb31
      replace h_q19 := keep_below h_q19 hb31
      replace h_q26 := keep_below h_q26 hb31
      replace o_z := own_below o_z hb31
      replace o_d := own_below o_d hb31
      replace o_zy := own_below o_zy hb31
      replace o_dy := own_below o_dy hb31
      replace hB := hB.trans (hb31.mono hB.size)
      clear hb31
      intro a53 p53
      have s59 : a53.eval (.tmp 59) = .bool true := p53.at hs (by decide)
      replace hs := p53.st hs
      refine q_take rfl rfl (((p53.ne rfl).trans (p52.ne rfl)).trans s57) rfl ?_
      refine g_not rfl s59 ?_
      intro a54 p54
      have s60 : a54.eval (.tmp 60) = .bool false := p54.at hs (by decide)
      replace hs := p54.st hs
      refine q_val rfl rfl ?_
      refine g_pick_f rfl (((p54.ne rfl).trans ((p53.ne rfl).trans (p52.ne rfl))).trans s57) s60 ?_
      intro a55 p55
      have s61 : a55.eval (.tmp 61) = .bool false := p55.at hs (by decide)
      replace hs := p55.st hs
      refine wpList_nil ?_
      replace s0 : a55.eval (.tmp 0) = .slice A n c := ((p55.ne rfl).trans ((p54.ne rfl).trans ((p53.ne rfl).trans ((p52.ne rfl).trans ((p51.ne rfl).trans ((p50.ne rfl).trans ((p49.ne rfl).trans ((p48.ne rfl).trans ((p47.ne rfl).trans ((p46.ne rfl).trans ((p45.ne rfl).trans ((p44.ne rfl).trans ((p43.ne rfl).trans ((p42.ne rfl).trans ((p41.ne rfl).trans ((p40.ne rfl).trans ((p39.ne rfl).trans ((p38.ne rfl).trans ((p37.ne rfl).trans ((p36.ne rfl).trans (p35.ne rfl))))))))))))))))))))).trans s0
      replace s2 : a55.eval (.tmp 2) = .bool false := ((p55.ne rfl).trans ((p54.ne rfl).trans ((p53.ne rfl).trans ((p52.ne rfl).trans ((p51.ne rfl).trans ((p50.ne rfl).trans ((p49.ne rfl).trans ((p48.ne rfl).trans ((p47.ne rfl).trans ((p46.ne rfl).trans ((p45.ne rfl).trans ((p44.ne rfl).trans ((p43.ne rfl).trans ((p42.ne rfl).trans ((p41.ne rfl).trans ((p40.ne rfl).trans ((p39.ne rfl).trans ((p38.ne rfl).trans ((p37.ne rfl).trans ((p36.ne rfl).trans (p35.ne rfl))))))))))))))))))))).trans s2
      replace s3 : a55.eval (.tmp 3) = .pointer (some ⟨q6, 0, none⟩) := ((p55.ne rfl).trans ((p54.ne rfl).trans ((p53.ne rfl).trans ((p52.ne rfl).trans ((p51.ne rfl).trans ((p50.ne rfl).trans ((p49.ne rfl).trans ((p48.ne rfl).trans ((p47.ne rfl).trans ((p46.ne rfl).trans ((p45.ne rfl).trans ((p44.ne rfl).trans ((p43.ne rfl).trans ((p42.ne rfl).trans ((p41.ne rfl).trans ((p40.ne rfl).trans ((p39.ne rfl).trans ((p38.ne rfl).trans ((p37.ne rfl).trans ((p36.ne rfl).trans (p35.ne rfl))))))))))))))))))))).trans s3
      replace s4 : a55.eval (.tmp 4) = .int .i64 ((k : Nat) : Int) := ((p55.ne rfl).trans ((p54.ne rfl).trans ((p53.ne rfl).trans ((p52.ne rfl).trans ((p51.ne rfl).trans ((p50.ne rfl).trans ((p49.ne rfl).trans ((p48.ne rfl).trans ((p47.ne rfl).trans ((p46.ne rfl).trans ((p45.ne rfl).trans ((p44.ne rfl).trans ((p43.ne rfl).trans ((p42.ne rfl).trans ((p41.ne rfl).trans ((p40.ne rfl).trans ((p39.ne rfl).trans ((p38.ne rfl).trans ((p37.ne rfl).trans ((p36.ne rfl).trans (p35.ne rfl))))))))))))))))))))).trans s4
      replace s19 : a55.eval (.tmp 19) = .bool true := ((p55.ne rfl).trans ((p54.ne rfl).trans ((p53.ne rfl).trans ((p52.ne rfl).trans ((p51.ne rfl).trans ((p50.ne rfl).trans ((p49.ne rfl).trans ((p48.ne rfl).trans ((p47.ne rfl).trans ((p46.ne rfl).trans ((p45.ne rfl).trans ((p44.ne rfl).trans ((p43.ne rfl).trans ((p42.ne rfl).trans ((p41.ne rfl).trans ((p40.ne rfl).trans ((p39.ne rfl).trans ((p38.ne rfl).trans ((p37.ne rfl).trans ((p36.ne rfl).trans (p35.ne rfl))))))))))))))))))))).trans s19
      replace s5 : a55.eval (.tmp 5) = .pointer (some ⟨q19, 0, none⟩) := ((p55.ne rfl).trans ((p54.ne rfl).trans ((p53.ne rfl).trans ((p52.ne rfl).trans ((p51.ne rfl).trans ((p50.ne rfl).trans ((p49.ne rfl).trans ((p48.ne rfl).trans ((p47.ne rfl).trans ((p46.ne rfl).trans ((p45.ne rfl).trans ((p44.ne rfl).trans ((p43.ne rfl).trans ((p42.ne rfl).trans ((p41.ne rfl).trans ((p40.ne rfl).trans ((p39.ne rfl).trans ((p38.ne rfl).trans ((p37.ne rfl).trans ((p36.ne rfl).trans (p35.ne rfl))))))))))))))))))))).trans s5
      replace s6 : a55.eval (.tmp 6) = .int .i64 (6 + (((x.f3).length : Nat) : Int)) := ((p55.ne rfl).trans ((p54.ne rfl).trans ((p53.ne rfl).trans ((p52.ne rfl).trans ((p51.ne rfl).trans ((p50.ne rfl).trans ((p49.ne rfl).trans ((p48.ne rfl).trans ((p47.ne rfl).trans ((p46.ne rfl).trans ((p45.ne rfl).trans ((p44.ne rfl).trans ((p43.ne rfl).trans ((p42.ne rfl).trans ((p41.ne rfl).trans ((p40.ne rfl).trans ((p39.ne rfl).trans ((p38.ne rfl).trans ((p37.ne rfl).trans ((p36.ne rfl).trans (p35.ne rfl))))))))))))))))))))).trans s6
      replace s7 : a55.eval (.tmp 7) = .pointer (some ⟨q26, 0, none⟩) := ((p55.ne rfl).trans ((p54.ne rfl).trans ((p53.ne rfl).trans ((p52.ne rfl).trans ((p51.ne rfl).trans ((p50.ne rfl).trans ((p49.ne rfl).trans ((p48.ne rfl).trans ((p47.ne rfl).trans ((p46.ne rfl).trans ((p45.ne rfl).trans ((p44.ne rfl).trans ((p43.ne rfl).trans ((p42.ne rfl).trans ((p41.ne rfl).trans ((p40.ne rfl).trans ((p39.ne rfl).trans ((p38.ne rfl).trans ((p37.ne rfl).trans ((p36.ne rfl).trans (p35.ne rfl))))))))))))))))))))).trans s7
      refine hK30 _ _ ?_
      clear hK30
      refine c_false s61 ?_
      refine wp_skip ?_
      refine hK29 _ _ ?_
      clear hK29
      refine wp_seq_k fun K33 hK33 => ?_
      refine wp_seq_k fun K34 hK34 => ?_
      refine wp_region_lit ?_
      refine q_val rfl rfl ?_
      refine g_field (r := 2) rfl s3 Try.underlying50 rfl (fun w => Try.sizeOf48 w) rfl rfl ?_
      intro a56 p56
      have s62 : a56.eval (.tmp 62) = .pointer (some ⟨q6, 2, none⟩) := p56.at hs (by decide)
      replace hs := p56.st hs
      refine q_val rfl rfl ?_
      refine g_load rfl s62 Try.isAgg48 (box_cell h_q6 rfl) ?_
      intro a57 p57
      have s63 : a57.eval (.tmp 63) = .slice D ds.length cd := p57.at hs (by decide)
      replace hs := p57.st hs
      refine q_val rfl rfl ?_
      refine g_len (e := _) rfl Try.underlying48 s63 ?_
      intro a58 p58
      have s64 : a58.eval (.tmp 64) = .int .i64 ((ds.length : Nat) : Int) := p58.at hs (by decide)
      replace hs := p58.st hs
      refine q_val rfl rfl ?_
      refine g_assign rfl s64 ?_
      intro a59 p59
      have s8 : a59.eval (.tmp 8) = .int .i64 ((ds.length : Nat) : Int) := p59.at hs (by decide)
      replace hs := p59.st hs
      refine wpList_nil ?_
      replace s0 : a59.eval (.tmp 0) = .slice A n c := ((p59.ne rfl).trans ((p58.ne rfl).trans ((p57.ne rfl).trans (p56.ne rfl)))).trans s0
      replace s2 : a59.eval (.tmp 2) = .bool false := ((p59.ne rfl).trans ((p58.ne rfl).trans ((p57.ne rfl).trans (p56.ne rfl)))).trans s2
      replace s3 : a59.eval (.tmp 3) = .pointer (some ⟨q6, 0, none⟩) := ((p59.ne rfl).trans ((p58.ne rfl).trans ((p57.ne rfl).trans (p56.ne rfl)))).trans s3
      replace s4 : a59.eval (.tmp 4) = .int .i64 ((k : Nat) : Int) := ((p59.ne rfl).trans ((p58.ne rfl).trans ((p57.ne rfl).trans (p56.ne rfl)))).trans s4
      replace s19 : a59.eval (.tmp 19) = .bool true := ((p59.ne rfl).trans ((p58.ne rfl).trans ((p57.ne rfl).trans (p56.ne rfl)))).trans s19
      replace s5 : a59.eval (.tmp 5) = .pointer (some ⟨q19, 0, none⟩) := ((p59.ne rfl).trans ((p58.ne rfl).trans ((p57.ne rfl).trans (p56.ne rfl)))).trans s5
      replace s6 : a59.eval (.tmp 6) = .int .i64 (6 + (((x.f3).length : Nat) : Int)) := ((p59.ne rfl).trans ((p58.ne rfl).trans ((p57.ne rfl).trans (p56.ne rfl)))).trans s6
      replace s7 : a59.eval (.tmp 7) = .pointer (some ⟨q26, 0, none⟩) := ((p59.ne rfl).trans ((p58.ne rfl).trans ((p57.ne rfl).trans (p56.ne rfl)))).trans s7
      replace s61 : a59.eval (.tmp 61) = .bool false := ((p59.ne rfl).trans ((p58.ne rfl).trans ((p57.ne rfl).trans (p56.ne rfl)))).trans s61
      refine hK34 _ _ ?_
      clear hK34
      refine wp_block ?_
      refine wp_loop (fun a wr => ∃ (i : Nat), (St 152 a) ∧ (a.eval (.tmp 0) = .slice A n c) ∧ (a.eval (.tmp 2) = .bool false) ∧ (a.eval (.tmp 3) = .pointer (some ⟨q6, 0, none⟩)) ∧ (a.eval (.tmp 4) = .int .i64 ((k : Nat) : Int)) ∧ (a.eval (.tmp 5) = .pointer (some ⟨q19, 0, none⟩)) ∧ (a.eval (.tmp 6) = .int .i64 (6 + (((x.f3).length : Nat) : Int))) ∧ (a.eval (.tmp 7) = .pointer (some ⟨q26, 0, none⟩)) ∧ (a.eval (.tmp 8) = .int .i64 ((i : Nat) : Int)) ∧ (a.eval (.tmp 19) = .bool true) ∧ (a.eval (.tmp 61) = .bool false) ∧ (Below w.heap.size w wr) ∧ (wr.heap[q6]? = some (.cells #[.int .i64 room, .slice Z zs.length cz, .slice D ds.length cd] 50 (0, 0))) ∧ (wr.heap[q19]? = some (.cells #[.int .i64 x.f0, .int .i64 x.f1, .int .i64 x.f2, .string ⟨(x.f3).toArray⟩] 26 (0, 0))) ∧ (wr.heap[q26]? = some (.cells #[.int .i64 room, .slice A24 ys.length c24, .slice B24 es.length d24] 50 (0, 0))) ∧ (wr.ownsRow w.heap.size 26 4 (.slice Z zs.length cz) zs.length (zs.flatMap cRecord)) ∧ (wr.ownsRow w.heap.size 3 1 (.slice D ds.length cd) ds.length (ds.flatMap cI)) ∧ (wr.ownsRow w.heap.size 26 4 (.slice A24 ys.length c24) ys.length (ys.flatMap cRecord)) ∧ (wr.ownsRow w.heap.size 3 1 (.slice B24 es.length d24) es.length (es.flatMap cI)) ∧ (ds.length ≤ i) ∧ (i ≤ es.length)) (fun a _ => es.length - (intOf (a.eval (.tmp 8))).toNat) (⟨ds.length, hs, s0, s2, s3, s4, s5, s6, s7, s8, s19, s61, hB, h_q6, h_q19, h_q26, o_z, o_d, o_zy, o_dy, Nat.le_refl _, (by have := congrArg List.length hg1; rw [List.length_append] at this; omega)⟩) ?_
      intro a60 w36 hI
      obtain ⟨i, hs, s0, s2, s3, s4, s5, s6, s7, s8, s19, s61, hB, h_q6, h_q19, h_q26, o_z, o_d, o_zy, o_dy, hi0, hi1⟩ := hI
      have mu37 := s8
      refine wp_seq_k fun K38 hK38 => ?_
      refine wp_seq_k fun K39 hK39 => ?_
      refine wp_region_lit ?_
      refine q_val rfl rfl ?_
      refine g_move rfl s8 ?_
      intro a61 p61
      have s65 : a61.eval (.tmp 65) = .int .i64 ((i : Nat) : Int) := p61.at hs (by decide)
      replace hs := p61.st hs
      refine q_val rfl rfl ?_
      refine g_field (r := 2) rfl ((p61.ne rfl).trans s7) Try.underlying50 rfl (fun w => Try.sizeOf48 w) rfl rfl ?_
      intro a62 p62
      have s66 : a62.eval (.tmp 66) = .pointer (some ⟨q26, 2, none⟩) := p62.at hs (by decide)
      replace hs := p62.st hs
      refine q_val rfl rfl ?_
      refine g_load rfl s66 Try.isAgg48 (box_cell h_q26 rfl) ?_
      intro a63 p63
      have s67 : a63.eval (.tmp 67) = .slice B24 es.length d24 := p63.at hs (by decide)
      replace hs := p63.st hs
      refine q_val rfl rfl ?_
      refine g_len (e := _) rfl Try.underlying48 s67 ?_
      intro a64 p64
      have s68 : a64.eval (.tmp 68) = .int .i64 ((es.length : Nat) : Int) := p64.at hs (by decide)
      replace hs := p64.st hs
      refine q_val rfl rfl ?_
      refine g_lss rfl (((p64.ne rfl).trans ((p63.ne rfl).trans (p62.ne rfl))).trans s65) s68 ?_
      intro a65 p65
      have s69 : a65.eval (.tmp 69) = .bool (decide (((i : Nat) : Int) < ((es.length : Nat) : Int))) := p65.at hs (by decide)
      replace hs := p65.st hs
      refine wpList_nil ?_
      replace s0 : a65.eval (.tmp 0) = .slice A n c := ((p65.ne rfl).trans ((p64.ne rfl).trans ((p63.ne rfl).trans ((p62.ne rfl).trans (p61.ne rfl))))).trans s0
      replace s2 : a65.eval (.tmp 2) = .bool false := ((p65.ne rfl).trans ((p64.ne rfl).trans ((p63.ne rfl).trans ((p62.ne rfl).trans (p61.ne rfl))))).trans s2
      replace s3 : a65.eval (.tmp 3) = .pointer (some ⟨q6, 0, none⟩) := ((p65.ne rfl).trans ((p64.ne rfl).trans ((p63.ne rfl).trans ((p62.ne rfl).trans (p61.ne rfl))))).trans s3
      replace s4 : a65.eval (.tmp 4) = .int .i64 ((k : Nat) : Int) := ((p65.ne rfl).trans ((p64.ne rfl).trans ((p63.ne rfl).trans ((p62.ne rfl).trans (p61.ne rfl))))).trans s4
      replace s19 : a65.eval (.tmp 19) = .bool true := ((p65.ne rfl).trans ((p64.ne rfl).trans ((p63.ne rfl).trans ((p62.ne rfl).trans (p61.ne rfl))))).trans s19
      replace s5 : a65.eval (.tmp 5) = .pointer (some ⟨q19, 0, none⟩) := ((p65.ne rfl).trans ((p64.ne rfl).trans ((p63.ne rfl).trans ((p62.ne rfl).trans (p61.ne rfl))))).trans s5
      replace s6 : a65.eval (.tmp 6) = .int .i64 (6 + (((x.f3).length : Nat) : Int)) := ((p65.ne rfl).trans ((p64.ne rfl).trans ((p63.ne rfl).trans ((p62.ne rfl).trans (p61.ne rfl))))).trans s6
      replace s7 : a65.eval (.tmp 7) = .pointer (some ⟨q26, 0, none⟩) := ((p65.ne rfl).trans ((p64.ne rfl).trans ((p63.ne rfl).trans ((p62.ne rfl).trans (p61.ne rfl))))).trans s7
      replace s61 : a65.eval (.tmp 61) = .bool false := ((p65.ne rfl).trans ((p64.ne rfl).trans ((p63.ne rfl).trans ((p62.ne rfl).trans (p61.ne rfl))))).trans s61
      replace s8 : a65.eval (.tmp 8) = .int .i64 ((i : Nat) : Int) := ((p65.ne rfl).trans ((p64.ne rfl).trans ((p63.ne rfl).trans ((p62.ne rfl).trans (p61.ne rfl))))).trans s8
      refine hK39 _ _ ?_
      clear hK39
      by_cases hc40 : ((i : Nat) : Int) < ((es.length : Nat) : Int)
      · replace s69 := s69.trans (congrArg Value.bool (decide_eq_true hc40))
        replace s69 : a65.eval (.tmp 69) = .bool true := s69
        refine c_true s69 ?_
        refine wp_skip ?_
        refine hK38 _ _ ?_
        clear hK38
        refine wp_seq_k fun K41 hK41 => ?_
        refine wp_block ?_
        refine wp_seq_k fun K42 hK42 => ?_
        have hli : i < es.length := by omega
        have hgi := hg2 _ (mem_new hg1 hli hi0)
        refine wp_region_lit ?_
        refine q_val rfl rfl ?_
        refine g_assign rfl rfl ?_
        intro a66 p66
        have s9 : a66.eval (.tmp 9) = .int .i64 0 := p66.at hs (by decide)
        replace hs := p66.st hs
        refine wpList_nil ?_
        replace s0 : a66.eval (.tmp 0) = .slice A n c := (p66.ne rfl).trans s0
        replace s2 : a66.eval (.tmp 2) = .bool false := (p66.ne rfl).trans s2
        replace s3 : a66.eval (.tmp 3) = .pointer (some ⟨q6, 0, none⟩) := (p66.ne rfl).trans s3
        replace s4 : a66.eval (.tmp 4) = .int .i64 ((k : Nat) : Int) := (p66.ne rfl).trans s4
        replace s19 : a66.eval (.tmp 19) = .bool true := (p66.ne rfl).trans s19
        replace s5 : a66.eval (.tmp 5) = .pointer (some ⟨q19, 0, none⟩) := (p66.ne rfl).trans s5
        replace s6 : a66.eval (.tmp 6) = .int .i64 (6 + (((x.f3).length : Nat) : Int)) := (p66.ne rfl).trans s6
        replace s7 : a66.eval (.tmp 7) = .pointer (some ⟨q26, 0, none⟩) := (p66.ne rfl).trans s7
        replace s61 : a66.eval (.tmp 61) = .bool false := (p66.ne rfl).trans s61
        replace s8 : a66.eval (.tmp 8) = .int .i64 ((i : Nat) : Int) := (p66.ne rfl).trans s8
        replace s69 : a66.eval (.tmp 69) = .bool true := (p66.ne rfl).trans s69
        refine hK42 _ _ ?_
        clear hK42
        refine wp_block ?_
        refine wp_loop (fun a wr => ∃ (j : Nat), (St 152 a) ∧ (a.eval (.tmp 0) = .slice A n c) ∧ (a.eval (.tmp 2) = .bool false) ∧ (a.eval (.tmp 3) = .pointer (some ⟨q6, 0, none⟩)) ∧ (a.eval (.tmp 4) = .int .i64 ((k : Nat) : Int)) ∧ (a.eval (.tmp 5) = .pointer (some ⟨q19, 0, none⟩)) ∧ (a.eval (.tmp 6) = .int .i64 (6 + (((x.f3).length : Nat) : Int))) ∧ (a.eval (.tmp 7) = .pointer (some ⟨q26, 0, none⟩)) ∧ (a.eval (.tmp 8) = .int .i64 ((i : Nat) : Int)) ∧ (a.eval (.tmp 9) = .int .i64 ((j : Nat) : Int)) ∧ (a.eval (.tmp 19) = .bool true) ∧ (a.eval (.tmp 61) = .bool false) ∧ (a.eval (.tmp 69) = .bool true) ∧ (Below w.heap.size w wr) ∧ (wr.heap[q6]? = some (.cells #[.int .i64 room, .slice Z zs.length cz, .slice D ds.length cd] 50 (0, 0))) ∧ (wr.heap[q19]? = some (.cells #[.int .i64 x.f0, .int .i64 x.f1, .int .i64 x.f2, .string ⟨(x.f3).toArray⟩] 26 (0, 0))) ∧ (wr.heap[q26]? = some (.cells #[.int .i64 room, .slice A24 ys.length c24, .slice B24 es.length d24] 50 (0, 0))) ∧ (wr.ownsRow w.heap.size 26 4 (.slice Z zs.length cz) zs.length (zs.flatMap cRecord)) ∧ (wr.ownsRow w.heap.size 3 1 (.slice D ds.length cd) ds.length (ds.flatMap cI)) ∧ (wr.ownsRow w.heap.size 26 4 (.slice A24 ys.length c24) ys.length (ys.flatMap cRecord)) ∧ (wr.ownsRow w.heap.size 3 1 (.slice B24 es.length d24) es.length (es.flatMap cI)) ∧ (j ≤ zs.length)) (fun a _ => zs.length - (intOf (a.eval (.tmp 9))).toNat) (⟨0, hs, s0, s2, s3, s4, s5, s6, s7, s8, s9, s19, s61, s69, hB, h_q6, h_q19, h_q26, o_z, o_d, o_zy, o_dy, Nat.zero_le _⟩) ?_
        intro a67 w44 hI
        obtain ⟨j, hs, s0, s2, s3, s4, s5, s6, s7, s8, s9, s19, s61, s69, hB, h_q6, h_q19, h_q26, o_z, o_d, o_zy, o_dy, hj⟩ := hI
        have mu45 := s9
        refine wp_seq_k fun K46 hK46 => ?_
        refine wp_seq_k fun K47 hK47 => ?_
        refine wp_region_lit ?_
        refine q_val rfl rfl ?_
        refine g_move rfl s9 ?_
        intro a68 p68
        have s72 : a68.eval (.tmp 72) = .int .i64 ((j : Nat) : Int) := p68.at hs (by decide)
        replace hs := p68.st hs
        refine q_val rfl rfl ?_
        refine g_field (r := 1) rfl ((p68.ne rfl).trans s3) Try.underlying50 rfl (fun w => Try.sizeOf47 w) rfl rfl ?_
        intro a69 p69
        have s73 : a69.eval (.tmp 73) = .pointer (some ⟨q6, 1, none⟩) := p69.at hs (by decide)
        replace hs := p69.st hs
        refine q_val rfl rfl ?_
        refine g_load rfl s73 Try.isAgg47 (box_cell h_q6 rfl) ?_
        intro a70 p70
        have s74 : a70.eval (.tmp 74) = .slice Z zs.length cz := p70.at hs (by decide)
        replace hs := p70.st hs
        refine q_val rfl rfl ?_
        refine g_len (e := _) rfl Try.underlying47 s74 ?_
        intro a71 p71
        have s75 : a71.eval (.tmp 75) = .int .i64 ((zs.length : Nat) : Int) := p71.at hs (by decide)
        replace hs := p71.st hs
        refine q_val rfl rfl ?_
        refine g_lss rfl (((p71.ne rfl).trans ((p70.ne rfl).trans (p69.ne rfl))).trans s72) s75 ?_
        intro a72 p72
        have s76 : a72.eval (.tmp 76) = .bool (decide (((j : Nat) : Int) < ((zs.length : Nat) : Int))) := p72.at hs (by decide)
        replace hs := p72.st hs
        refine wpList_nil ?_
        replace s0 : a72.eval (.tmp 0) = .slice A n c := ((p72.ne rfl).trans ((p71.ne rfl).trans ((p70.ne rfl).trans ((p69.ne rfl).trans (p68.ne rfl))))).trans s0
        replace s2 : a72.eval (.tmp 2) = .bool false := ((p72.ne rfl).trans ((p71.ne rfl).trans ((p70.ne rfl).trans ((p69.ne rfl).trans (p68.ne rfl))))).trans s2
        replace s3 : a72.eval (.tmp 3) = .pointer (some ⟨q6, 0, none⟩) := ((p72.ne rfl).trans ((p71.ne rfl).trans ((p70.ne rfl).trans ((p69.ne rfl).trans (p68.ne rfl))))).trans s3
        replace s4 : a72.eval (.tmp 4) = .int .i64 ((k : Nat) : Int) := ((p72.ne rfl).trans ((p71.ne rfl).trans ((p70.ne rfl).trans ((p69.ne rfl).trans (p68.ne rfl))))).trans s4
        replace s19 : a72.eval (.tmp 19) = .bool true := ((p72.ne rfl).trans ((p71.ne rfl).trans ((p70.ne rfl).trans ((p69.ne rfl).trans (p68.ne rfl))))).trans s19
        replace s5 : a72.eval (.tmp 5) = .pointer (some ⟨q19, 0, none⟩) := ((p72.ne rfl).trans ((p71.ne rfl).trans ((p70.ne rfl).trans ((p69.ne rfl).trans (p68.ne rfl))))).trans s5
        replace s6 : a72.eval (.tmp 6) = .int .i64 (6 + (((x.f3).length : Nat) : Int)) := ((p72.ne rfl).trans ((p71.ne rfl).trans ((p70.ne rfl).trans ((p69.ne rfl).trans (p68.ne rfl))))).trans s6
        replace s7 : a72.eval (.tmp 7) = .pointer (some ⟨q26, 0, none⟩) := ((p72.ne rfl).trans ((p71.ne rfl).trans ((p70.ne rfl).trans ((p69.ne rfl).trans (p68.ne rfl))))).trans s7
        replace s61 : a72.eval (.tmp 61) = .bool false := ((p72.ne rfl).trans ((p71.ne rfl).trans ((p70.ne rfl).trans ((p69.ne rfl).trans (p68.ne rfl))))).trans s61
        replace s8 : a72.eval (.tmp 8) = .int .i64 ((i : Nat) : Int) := ((p72.ne rfl).trans ((p71.ne rfl).trans ((p70.ne rfl).trans ((p69.ne rfl).trans (p68.ne rfl))))).trans s8
        replace s69 : a72.eval (.tmp 69) = .bool true := ((p72.ne rfl).trans ((p71.ne rfl).trans ((p70.ne rfl).trans ((p69.ne rfl).trans (p68.ne rfl))))).trans s69
        replace s9 : a72.eval (.tmp 9) = .int .i64 ((j : Nat) : Int) := ((p72.ne rfl).trans ((p71.ne rfl).trans ((p70.ne rfl).trans ((p69.ne rfl).trans (p68.ne rfl))))).trans s9
        refine hK47 _ _ ?_
        clear hK47
        by_cases hc48 : ((j : Nat) : Int) < ((zs.length : Nat) : Int)
        · replace s76 := s76.trans (congrArg Value.bool (decide_eq_true hc48))
          replace s76 : a72.eval (.tmp 76) = .bool true := s76
          refine c_true s76 ?_
          refine wp_skip ?_
          refine hK46 _ _ ?_
          clear hK46
          refine wp_seq_k fun K49 hK49 => ?_
          refine wp_block ?_
          refine wp_seq_k fun K50 hK50 => ?_
          have hlj : j < zs.length := by omega
          by_cases heq : zs[j].f0 = es[i]
          · obtain ⟨b59, o60, hA61, hl_hc62, hc62⟩ := Rd.get cRecord_len (Rd.of_own o_z) rfl (i := j) (by omega)
            obtain ⟨b63, o64, hA65, hl_hc66, hc66⟩ := Rd.get cI_len (Rd.of_own o_dy) rfl (i := i) (by omega)
            obtain ⟨b67, o68, hA69, hl_hc70, hc70⟩ := Rd.get cRecord_len (Rd.of_own o_z) rfl (i := j) (by omega)
            refine wp_drawn (n := 152) [] [] [] (fun k_ v_ _wx => match k_ with | 0 => v_ = .pointer (some ⟨q6, 1, none⟩) | 1 => v_ = .slice Z zs.length cz | 2 => v_ = .int .i64 ((j : Nat) : Int) | 3 => v_ = .pointer (some ⟨b59, o60 + j * 4, none⟩) | 4 => v_ = .pointer (some ⟨b59, o60 + j * 4, none⟩) | 5 => v_ = .int .i64 (zs[j].f0) | 6 => v_ = .pointer (some ⟨q26, 2, none⟩) | 7 => v_ = .slice B24 es.length d24 | 8 => v_ = .int .i64 ((i : Nat) : Int) | 9 => v_ = .pointer (some ⟨b63, o64 + i * 1, none⟩) | 10 => v_ = .int .i64 es[i] | 11 => v_ = .bool true | 12 => v_ = .bool true | 13 => v_ = .pointer (some ⟨q6, 1, none⟩) | 14 => v_ = .slice Z zs.length cz | 15 => v_ = .int .i64 ((j : Nat) : Int) | 16 => v_ = .pointer (some ⟨b67, o68 + j * 4, none⟩) | 17 => v_ = .pointer (some ⟨b67, o68 + j * 4 + 1, none⟩) | 18 => v_ = .int .i64 (zs[j].f1) | 19 => v_ = .pointer (some ⟨q19, 1, none⟩) | 20 => v_ = .int .i64 x.f1 | 21 => v_ = .bool false | 22 => v_ = .bool false | _ => True) (by kernel_rfl) (by kernel_rfl) (by kernel_rfl) (by kernel_rfl) hs.size ?_ ?_ ?_
            · intro i v wa wb hb hr
              rcases i with _ | _ | _ | _ | _ | _ | _ | _ | _ | _ | _ | _ | _ | _ | _ | _ | _ | _ | _ | _ | _ | _ | _ | i
              · exact hr
              · exact hr
              · exact hr
              · exact hr
              · exact hr
              · exact hr
              · exact hr
              · exact hr
              · exact hr
              · exact hr
              · exact hr
              · exact hr
              · exact hr
              · exact hr
              · exact hr
              · exact hr
              · exact hr
              · exact hr
              · exact hr
              · exact hr
              · exact hr
              · exact hr
              · exact hr
              · trivial
            · refine d_step rfl rfl ?_ (d_step rfl rfl ?_ (d_step rfl rfl ?_ (d_step rfl rfl ?_ (d_step rfl rfl ?_ (d_step rfl rfl ?_ (d_step rfl rfl ?_ (d_step rfl rfl ?_ (d_step rfl rfl ?_ (d_step rfl rfl ?_ (d_step rfl rfl ?_ (d_step rfl rfl ?_ (d_step rfl rfl ?_ (d_take rfl 12 true 91 rfl rfl rfl (fun v w h => h) ?_ (d_take rfl 12 true 91 rfl rfl rfl (fun v w h => h) ?_ (d_take rfl 12 true 91 rfl rfl rfl (fun v w h => h) ?_ (d_take rfl 12 true 91 rfl rfl rfl (fun v w h => h) ?_ (d_take rfl 12 true 91 rfl rfl rfl (fun v w h => h) ?_ (d_take rfl 12 true 91 rfl rfl rfl (fun v w h => h) ?_ (d_take rfl 12 true 91 rfl rfl rfl (fun v w h => h) ?_ (d_take rfl 12 true 91 rfl rfl rfl (fun v w h => h) ?_ (d_take rfl 12 true 91 rfl rfl rfl (fun v w h => h) ?_ (d_step rfl rfl ?_ (d_nil)))))))))))))))))))))))
              · intro xv_ wx ρ hρ hwx hd K hK
                have e3 : ρ (.tmp 3) = .pointer (some ⟨q6, 0, none⟩) := (hρ.inn 3 rfl).trans s3
                refine g_field (r := 1) rfl e3 Try.underlying50 rfl (fun w => Try.sizeOf47 w) rfl rfl ?_
                exact hK _ _ (Below.refl _ _) rfl
              · intro xv_ wx ρ hρ hwx hd K hK
                obtain r0 : xv_ 0 = .pointer (some ⟨q6, 1, none⟩) := hd 0 rfl
                have e79 : ρ (.tmp 79) = .pointer (some ⟨q6, 1, none⟩) := (hρ.out 0 79 rfl (by rw [hs.size]; decide) rfl).trans r0
                have h_q6 := keep_below h_q6 hwx
                refine g_load rfl e79 Try.isAgg47 (box_cell h_q6 rfl) ?_
                exact hK _ _ (Below.refl _ _) rfl
              · intro xv_ wx ρ hρ hwx hd K hK
                have e9 : ρ (.tmp 9) = .int .i64 ((j : Nat) : Int) := (hρ.inn 9 rfl).trans s9
                refine g_move rfl e9 ?_
                exact hK _ _ (Below.refl _ _) rfl
              · intro xv_ wx ρ hρ hwx hd K hK
                obtain r1 : xv_ 1 = .slice Z zs.length cz := hd 1 rfl
                have e80 : ρ (.tmp 80) = .slice Z zs.length cz := (hρ.out 1 80 rfl (by rw [hs.size]; decide) rfl).trans r1
                obtain r2 : xv_ 2 = .int .i64 ((j : Nat) : Int) := hd 2 rfl
                have e81 : ρ (.tmp 81) = .int .i64 ((j : Nat) : Int) := (hρ.out 2 81 rfl (by rw [hs.size]; decide) rfl).trans r2
                refine g_index (r := o60 + j * 4) (k := j) rfl (e80.trans (slice_at hA61)) e81 Try.underlying47 (fun w => Try.sizeOf26 w) (by omega) rfl ?_
                exact hK _ _ (Below.refl _ _) rfl
              · intro xv_ wx ρ hρ hwx hd K hK
                obtain r3 : xv_ 3 = .pointer (some ⟨b59, o60 + j * 4, none⟩) := hd 3 rfl
                have e82 : ρ (.tmp 82) = .pointer (some ⟨b59, o60 + j * 4, none⟩) := (hρ.out 3 82 rfl (by rw [hs.size]; decide) rfl).trans r3
                refine g_field (r := o60 + j * 4) rfl e82 Try.underlying26 rfl (fun w => Try.sizeOf3 w) rfl rfl ?_
                exact hK _ _ (Below.refl _ _) rfl
              · intro xv_ wx ρ hρ hwx hd K hK
                obtain r4 : xv_ 4 = .pointer (some ⟨b59, o60 + j * 4, none⟩) := hd 4 rfl
                have e83 : ρ (.tmp 83) = .pointer (some ⟨b59, o60 + j * 4, none⟩) := (hρ.out 4 83 rfl (by rw [hs.size]; decide) rfl).trans r4
                have hc62 := elem_below hc62 hwx hl_hc62
                refine g_load rfl e83 Try.isAgg3 (by first | exact hc62 0 _ (by decide) rfl | (rw [Nat.add_assoc]; exact hc62 0 _ (by decide) rfl)) ?_
                exact hK _ _ (Below.refl _ _) rfl
              · intro xv_ wx ρ hρ hwx hd K hK
                have e7 : ρ (.tmp 7) = .pointer (some ⟨q26, 0, none⟩) := (hρ.inn 7 rfl).trans s7
                refine g_field (r := 2) rfl e7 Try.underlying50 rfl (fun w => Try.sizeOf48 w) rfl rfl ?_
                exact hK _ _ (Below.refl _ _) rfl
              · intro xv_ wx ρ hρ hwx hd K hK
                obtain r6 : xv_ 6 = .pointer (some ⟨q26, 2, none⟩) := hd 6 rfl
                have e85 : ρ (.tmp 85) = .pointer (some ⟨q26, 2, none⟩) := (hρ.out 6 85 rfl (by rw [hs.size]; decide) rfl).trans r6
                have h_q26 := keep_below h_q26 hwx
                refine g_load rfl e85 Try.isAgg48 (box_cell h_q26 rfl) ?_
                exact hK _ _ (Below.refl _ _) rfl
              · intro xv_ wx ρ hρ hwx hd K hK
                have e8 : ρ (.tmp 8) = .int .i64 ((i : Nat) : Int) := (hρ.inn 8 rfl).trans s8
                refine g_move rfl e8 ?_
                exact hK _ _ (Below.refl _ _) rfl
              · intro xv_ wx ρ hρ hwx hd K hK
                obtain r7 : xv_ 7 = .slice B24 es.length d24 := hd 7 rfl
                have e86 : ρ (.tmp 86) = .slice B24 es.length d24 := (hρ.out 7 86 rfl (by rw [hs.size]; decide) rfl).trans r7
                obtain r8 : xv_ 8 = .int .i64 ((i : Nat) : Int) := hd 8 rfl
                have e87 : ρ (.tmp 87) = .int .i64 ((i : Nat) : Int) := (hρ.out 8 87 rfl (by rw [hs.size]; decide) rfl).trans r8
                refine g_index (r := o64 + i * 1) (k := i) rfl (e86.trans (slice_at hA65)) e87 Try.underlying48 (fun w => Try.sizeOf3 w) (by omega) rfl ?_
                exact hK _ _ (Below.refl _ _) rfl
              · intro xv_ wx ρ hρ hwx hd K hK
                obtain r9 : xv_ 9 = .pointer (some ⟨b63, o64 + i * 1, none⟩) := hd 9 rfl
                have e88 : ρ (.tmp 88) = .pointer (some ⟨b63, o64 + i * 1, none⟩) := (hρ.out 9 88 rfl (by rw [hs.size]; decide) rfl).trans r9
                have hc66 := elem_below hc66 hwx hl_hc66
                refine g_load rfl e88 Try.isAgg3 (by first | exact hc66 0 _ (by decide) rfl | (rw [Nat.add_assoc]; exact hc66 0 _ (by decide) rfl)) ?_
                exact hK _ _ (Below.refl _ _) rfl
              · intro xv_ wx ρ hρ hwx hd K hK
                obtain r5 : xv_ 5 = .int .i64 (zs[j].f0) := hd 5 rfl
                have e84 : ρ (.tmp 84) = .int .i64 (zs[j].f0) := (hρ.out 5 84 rfl (by rw [hs.size]; decide) rfl).trans r5
                obtain r10 : xv_ 10 = .int .i64 es[i] := hd 10 rfl
                have e89 : ρ (.tmp 89) = .int .i64 es[i] := (hρ.out 10 89 rfl (by rw [hs.size]; decide) rfl).trans r10
                refine g_eql rfl e84 e89 ?_
                exact hK _ _ (Below.refl _ _) (congrArg Value.bool (decide_eq_true heq))
              · intro xv_ wx ρ hρ hwx hd K hK
                obtain r11 : xv_ 11 = .bool true := hd 11 rfl
                have e90 : ρ (.tmp 90) = .bool true := (hρ.out 11 90 rfl (by rw [hs.size]; decide) rfl).trans r11
                refine g_move rfl e90 ?_
                exact hK _ _ (Below.refl _ _) rfl
              · intro xv_ wx ρ hρ hwx hd K hK
                have e3 : ρ (.tmp 3) = .pointer (some ⟨q6, 0, none⟩) := (hρ.inn 3 rfl).trans s3
                refine g_field (r := 1) rfl e3 Try.underlying50 rfl (fun w => Try.sizeOf47 w) rfl rfl ?_
                exact hK _ _ (Below.refl _ _) rfl
              · intro xv_ wx ρ hρ hwx hd K hK
                obtain r13 : xv_ 13 = .pointer (some ⟨q6, 1, none⟩) := hd 13 rfl
                have e92 : ρ (.tmp 92) = .pointer (some ⟨q6, 1, none⟩) := (hρ.out 13 92 rfl (by rw [hs.size]; decide) rfl).trans r13
                have h_q6 := keep_below h_q6 hwx
                refine g_load rfl e92 Try.isAgg47 (box_cell h_q6 rfl) ?_
                exact hK _ _ (Below.refl _ _) rfl
              · intro xv_ wx ρ hρ hwx hd K hK
                have e9 : ρ (.tmp 9) = .int .i64 ((j : Nat) : Int) := (hρ.inn 9 rfl).trans s9
                refine g_move rfl e9 ?_
                exact hK _ _ (Below.refl _ _) rfl
              · intro xv_ wx ρ hρ hwx hd K hK
                obtain r14 : xv_ 14 = .slice Z zs.length cz := hd 14 rfl
                have e93 : ρ (.tmp 93) = .slice Z zs.length cz := (hρ.out 14 93 rfl (by rw [hs.size]; decide) rfl).trans r14
                obtain r15 : xv_ 15 = .int .i64 ((j : Nat) : Int) := hd 15 rfl
                have e94 : ρ (.tmp 94) = .int .i64 ((j : Nat) : Int) := (hρ.out 15 94 rfl (by rw [hs.size]; decide) rfl).trans r15
                refine g_index (r := o68 + j * 4) (k := j) rfl (e93.trans (slice_at hA69)) e94 Try.underlying47 (fun w => Try.sizeOf26 w) (by omega) rfl ?_
                exact hK _ _ (Below.refl _ _) rfl
              · intro xv_ wx ρ hρ hwx hd K hK
                obtain r16 : xv_ 16 = .pointer (some ⟨b67, o68 + j * 4, none⟩) := hd 16 rfl
                have e95 : ρ (.tmp 95) = .pointer (some ⟨b67, o68 + j * 4, none⟩) := (hρ.out 16 95 rfl (by rw [hs.size]; decide) rfl).trans r16
                refine g_field (r := o68 + j * 4 + 1) rfl e95 Try.underlying26 rfl (fun w => Try.sizeOf3 w) rfl rfl ?_
                exact hK _ _ (Below.refl _ _) rfl
              · intro xv_ wx ρ hρ hwx hd K hK
                obtain r17 : xv_ 17 = .pointer (some ⟨b67, o68 + j * 4 + 1, none⟩) := hd 17 rfl
                have e96 : ρ (.tmp 96) = .pointer (some ⟨b67, o68 + j * 4 + 1, none⟩) := (hρ.out 17 96 rfl (by rw [hs.size]; decide) rfl).trans r17
                have hc70 := elem_below hc70 hwx hl_hc70
                refine g_load rfl e96 Try.isAgg3 (by first | exact hc70 1 _ (by decide) rfl | (rw [Nat.add_assoc]; exact hc70 1 _ (by decide) rfl)) ?_
                exact hK _ _ (Below.refl _ _) rfl
              · intro xv_ wx ρ hρ hwx hd K hK
                have e5 : ρ (.tmp 5) = .pointer (some ⟨q19, 0, none⟩) := (hρ.inn 5 rfl).trans s5
                refine g_field (r := 1) rfl e5 Try.underlying26 rfl (fun w => Try.sizeOf3 w) rfl rfl ?_
                exact hK _ _ (Below.refl _ _) rfl
              · intro xv_ wx ρ hρ hwx hd K hK
                obtain r19 : xv_ 19 = .pointer (some ⟨q19, 1, none⟩) := hd 19 rfl
                have e98 : ρ (.tmp 98) = .pointer (some ⟨q19, 1, none⟩) := (hρ.out 19 98 rfl (by rw [hs.size]; decide) rfl).trans r19
                have h_q19 := keep_below h_q19 hwx
                refine g_load rfl e98 Try.isAgg3 (box_cell h_q19 rfl) ?_
                exact hK _ _ (Below.refl _ _) rfl
              · intro xv_ wx ρ hρ hwx hd K hK
                obtain r18 : xv_ 18 = .int .i64 (zs[j].f1) := hd 18 rfl
                have e97 : ρ (.tmp 97) = .int .i64 (zs[j].f1) := (hρ.out 18 97 rfl (by rw [hs.size]; decide) rfl).trans r18
                obtain r20 : xv_ 20 = .int .i64 x.f1 := hd 20 rfl
                have e99 : ρ (.tmp 99) = .int .i64 x.f1 := (hρ.out 20 99 rfl (by rw [hs.size]; decide) rfl).trans r20
                refine g_geq rfl e97 e99 ?_
                exact hK _ _ (Below.refl _ _) (congrArg Value.bool (decide_eq_false (fun h9 => by have := hgi _ (List.getElem_mem hlj) heq; omega)))
              · intro xv_ wx ρ hρ hwx hd K hK
                obtain r12 : xv_ 12 = .bool true := hd 12 rfl
                have e91 : ρ (.tmp 91) = .bool true := (hρ.out 12 91 rfl (by rw [hs.size]; decide) rfl).trans r12
                obtain r21 : xv_ 21 = .bool false := hd 21 rfl
                have e100 : ρ (.tmp 100) = .bool false := (hρ.out 21 100 rfl (by rw [hs.size]; decide) rfl).trans r21
                refine g_pick_t rfl e91 e100 ?_
                exact hK _ _ (Below.refl _ _) rfl
            · intro x0_ w71 hb_w71 hr0
              obtain r0 : x0_ 0 = .pointer (some ⟨q6, 1, none⟩) := hr0 0 (by decide) rfl rfl
              obtain r1 : x0_ 1 = .slice Z zs.length cz := hr0 1 (by decide) rfl rfl
              obtain r2 : x0_ 2 = .int .i64 ((j : Nat) : Int) := hr0 2 (by decide) rfl rfl
              obtain r3 : x0_ 3 = .pointer (some ⟨b59, o60 + j * 4, none⟩) := hr0 3 (by decide) rfl rfl
              obtain r4 : x0_ 4 = .pointer (some ⟨b59, o60 + j * 4, none⟩) := hr0 4 (by decide) rfl rfl
              obtain r5 : x0_ 5 = .int .i64 (zs[j].f0) := hr0 5 (by decide) rfl rfl
              obtain r6 : x0_ 6 = .pointer (some ⟨q26, 2, none⟩) := hr0 6 (by decide) rfl rfl
              obtain r7 : x0_ 7 = .slice B24 es.length d24 := hr0 7 (by decide) rfl rfl
              obtain r8 : x0_ 8 = .int .i64 ((i : Nat) : Int) := hr0 8 (by decide) rfl rfl
              obtain r9 : x0_ 9 = .pointer (some ⟨b63, o64 + i * 1, none⟩) := hr0 9 (by decide) rfl rfl
              obtain r10 : x0_ 10 = .int .i64 es[i] := hr0 10 (by decide) rfl rfl
              obtain r11 : x0_ 11 = .bool true := hr0 11 (by decide) rfl rfl
              obtain r12 : x0_ 12 = .bool true := hr0 12 (by decide) rfl rfl
              obtain r13 : x0_ 13 = .pointer (some ⟨q6, 1, none⟩) := hr0 13 (by decide) rfl rfl
              obtain r14 : x0_ 14 = .slice Z zs.length cz := hr0 14 (by decide) rfl rfl
              obtain r15 : x0_ 15 = .int .i64 ((j : Nat) : Int) := hr0 15 (by decide) rfl rfl
              obtain r16 : x0_ 16 = .pointer (some ⟨b67, o68 + j * 4, none⟩) := hr0 16 (by decide) rfl rfl
              obtain r17 : x0_ 17 = .pointer (some ⟨b67, o68 + j * 4 + 1, none⟩) := hr0 17 (by decide) rfl rfl
              obtain r18 : x0_ 18 = .int .i64 (zs[j].f1) := hr0 18 (by decide) rfl rfl
              obtain r19 : x0_ 19 = .pointer (some ⟨q19, 1, none⟩) := hr0 19 (by decide) rfl rfl
              obtain r20 : x0_ 20 = .int .i64 x.f1 := hr0 20 (by decide) rfl rfl
              obtain r21 : x0_ 21 = .bool false := hr0 21 (by decide) rfl rfl
              obtain r22 : x0_ 22 = .bool false := hr0 22 (by decide) rfl rfl
              clear hr0
              replace h_q6 := keep_below h_q6 hb_w71
              replace h_q19 := keep_below h_q19 hb_w71
              replace h_q26 := keep_below h_q26 hb_w71
              replace o_z := own_below o_z hb_w71
              replace o_d := own_below o_d hb_w71
              replace o_zy := own_below o_zy hb_w71
              replace o_dy := own_below o_dy hb_w71
              replace hB := hB.trans (hb_w71.mono hB.size)
              clear hb_w71
              intro xv_ a73 hρ hsz hdf qx_ ql_ qk_ qlk_
              replace s0 : a73.eval (.tmp 0) = .slice A n c := (hρ.inn 0 rfl).trans s0
              replace s2 : a73.eval (.tmp 2) = .bool false := (hρ.inn 2 rfl).trans s2
              replace s3 : a73.eval (.tmp 3) = .pointer (some ⟨q6, 0, none⟩) := (hρ.inn 3 rfl).trans s3
              replace s4 : a73.eval (.tmp 4) = .int .i64 ((k : Nat) : Int) := (hρ.inn 4 rfl).trans s4
              replace s5 : a73.eval (.tmp 5) = .pointer (some ⟨q19, 0, none⟩) := (hρ.inn 5 rfl).trans s5
              replace s6 : a73.eval (.tmp 6) = .int .i64 (6 + (((x.f3).length : Nat) : Int)) := (hρ.inn 6 rfl).trans s6
              replace s7 : a73.eval (.tmp 7) = .pointer (some ⟨q26, 0, none⟩) := (hρ.inn 7 rfl).trans s7
              replace s8 : a73.eval (.tmp 8) = .int .i64 ((i : Nat) : Int) := (hρ.inn 8 rfl).trans s8
              replace s9 : a73.eval (.tmp 9) = .int .i64 ((j : Nat) : Int) := (hρ.inn 9 rfl).trans s9
              replace s19 : a73.eval (.tmp 19) = .bool true := (hρ.inn 19 rfl).trans s19
              replace s61 : a73.eval (.tmp 61) = .bool false := (hρ.inn 61 rfl).trans s61
              replace s69 : a73.eval (.tmp 69) = .bool true := (hρ.inn 69 rfl).trans s69
              replace s76 : a73.eval (.tmp 76) = .bool true := (hρ.inn 76 rfl).trans s76
              have s101 : a73.eval (.tmp 101) = .bool false := (hρ.out 22 101 rfl (by rw [hs.size]; decide)).trans ((qx_ 22 (by decide) rfl rfl).trans r22)
              replace hs : St 152 a73 := ⟨hsz.trans hs.size, hdf.trans hs.nodef⟩
              clear hρ hsz hdf qx_ ql_ qk_ qlk_
              refine hK50 _ _ ?_
              clear hK50
              refine c_false s101 ?_
              refine wp_skip ?_
              refine hK49 _ _ ?_
              clear hK49
              refine wp_region_lit ?_
              refine q_val rfl rfl ?_
              refine g_move rfl s9 ?_
              intro a74 p74
              have s77 : a74.eval (.tmp 77) = .int .i64 ((j : Nat) : Int) := p74.at hs (by decide)
              replace hs := p74.st hs
              refine q_val rfl rfl ?_
              refine g_add (r := ((j + 1 : Nat) : Int)) rfl s77 rfl (by omega) (by omega) ?_
              intro a75 p75
              have s78 : a75.eval (.tmp 78) = .int .i64 ((j + 1 : Nat) : Int) := p75.at hs (by decide)
              replace hs := p75.st hs
              refine q_val rfl rfl ?_
              refine g_assign rfl s78 ?_
              intro a76 p76
              have s9 : a76.eval (.tmp 9) = .int .i64 ((j + 1 : Nat) : Int) := p76.at hs (by decide)
              replace hs := p76.st hs
              refine wpList_nil ?_
              replace s0 : a76.eval (.tmp 0) = .slice A n c := ((p76.ne rfl).trans ((p75.ne rfl).trans (p74.ne rfl))).trans s0
              replace s2 : a76.eval (.tmp 2) = .bool false := ((p76.ne rfl).trans ((p75.ne rfl).trans (p74.ne rfl))).trans s2
              replace s3 : a76.eval (.tmp 3) = .pointer (some ⟨q6, 0, none⟩) := ((p76.ne rfl).trans ((p75.ne rfl).trans (p74.ne rfl))).trans s3
              replace s4 : a76.eval (.tmp 4) = .int .i64 ((k : Nat) : Int) := ((p76.ne rfl).trans ((p75.ne rfl).trans (p74.ne rfl))).trans s4
              replace s5 : a76.eval (.tmp 5) = .pointer (some ⟨q19, 0, none⟩) := ((p76.ne rfl).trans ((p75.ne rfl).trans (p74.ne rfl))).trans s5
              replace s6 : a76.eval (.tmp 6) = .int .i64 (6 + (((x.f3).length : Nat) : Int)) := ((p76.ne rfl).trans ((p75.ne rfl).trans (p74.ne rfl))).trans s6
              replace s7 : a76.eval (.tmp 7) = .pointer (some ⟨q26, 0, none⟩) := ((p76.ne rfl).trans ((p75.ne rfl).trans (p74.ne rfl))).trans s7
              replace s8 : a76.eval (.tmp 8) = .int .i64 ((i : Nat) : Int) := ((p76.ne rfl).trans ((p75.ne rfl).trans (p74.ne rfl))).trans s8
              replace s19 : a76.eval (.tmp 19) = .bool true := ((p76.ne rfl).trans ((p75.ne rfl).trans (p74.ne rfl))).trans s19
              replace s61 : a76.eval (.tmp 61) = .bool false := ((p76.ne rfl).trans ((p75.ne rfl).trans (p74.ne rfl))).trans s61
              replace s69 : a76.eval (.tmp 69) = .bool true := ((p76.ne rfl).trans ((p75.ne rfl).trans (p74.ne rfl))).trans s69
              replace s76 : a76.eval (.tmp 76) = .bool true := ((p76.ne rfl).trans ((p75.ne rfl).trans (p74.ne rfl))).trans s76
              replace s101 : a76.eval (.tmp 101) = .bool false := ((p76.ne rfl).trans ((p75.ne rfl).trans (p74.ne rfl))).trans s101
              refine show _ ∧ _ from ⟨⟨j + 1, hs, s0, s2, s3, s4, s5, s6, s7, s8, s9, s19, s61, s69, hB, h_q6, h_q19, h_q26, o_z, o_d, o_zy, o_dy, (by omega)⟩, ?_⟩
              show zs.length - (intOf (a76.eval (.tmp 9))).toNat < zs.length - (intOf (a67.eval (.tmp 9))).toNat
              rw [s9, mu45]
              simp only [intOf]
              omega
          · have hlj : j < zs.length := by omega
            obtain ⟨b72, o73, hA74, hl_hc75, hc75⟩ := Rd.get cRecord_len (Rd.of_own o_z) rfl (i := j) (by omega)
            obtain ⟨b76, o77, hA78, hl_hc79, hc79⟩ := Rd.get cI_len (Rd.of_own o_dy) rfl (i := i) (by omega)
            refine wp_drawn (n := 152) [] [] [] (fun k_ v_ _wx => match k_ with | 0 => v_ = .pointer (some ⟨q6, 1, none⟩) | 1 => v_ = .slice Z zs.length cz | 2 => v_ = .int .i64 ((j : Nat) : Int) | 3 => v_ = .pointer (some ⟨b72, o73 + j * 4, none⟩) | 4 => v_ = .pointer (some ⟨b72, o73 + j * 4, none⟩) | 5 => v_ = .int .i64 (zs[j].f0) | 6 => v_ = .pointer (some ⟨q26, 2, none⟩) | 7 => v_ = .slice B24 es.length d24 | 8 => v_ = .int .i64 ((i : Nat) : Int) | 9 => v_ = .pointer (some ⟨b76, o77 + i * 1, none⟩) | 10 => v_ = .int .i64 es[i] | 11 => v_ = .bool false | 12 => v_ = .bool false | 22 => v_ = .bool false | _ => True) (by kernel_rfl) (by kernel_rfl) (by kernel_rfl) (by kernel_rfl) hs.size ?_ ?_ ?_
            · intro i v wa wb hb hr
              rcases i with _ | _ | _ | _ | _ | _ | _ | _ | _ | _ | _ | _ | _ | _ | _ | _ | _ | _ | _ | _ | _ | _ | _ | i
              · exact hr
              · exact hr
              · exact hr
              · exact hr
              · exact hr
              · exact hr
              · exact hr
              · exact hr
              · exact hr
              · exact hr
              · exact hr
              · exact hr
              · exact hr
              · trivial
              · trivial
              · trivial
              · trivial
              · trivial
              · trivial
              · trivial
              · trivial
              · trivial
              · exact hr
              · trivial
            · refine d_step rfl rfl ?_ (d_step rfl rfl ?_ (d_step rfl rfl ?_ (d_step rfl rfl ?_ (d_step rfl rfl ?_ (d_step rfl rfl ?_ (d_step rfl rfl ?_ (d_step rfl rfl ?_ (d_step rfl rfl ?_ (d_step rfl rfl ?_ (d_step rfl rfl ?_ (d_step rfl rfl ?_ (d_step rfl rfl ?_ (d_skip 12 true 91 rfl rfl rfl (fun v w h => Or.inl h) (fun w => trivial) (d_skip 12 true 91 rfl rfl rfl (fun v w h => Or.inl h) (fun w => trivial) (d_skip 12 true 91 rfl rfl rfl (fun v w h => Or.inl h) (fun w => trivial) (d_skip 12 true 91 rfl rfl rfl (fun v w h => Or.inl h) (fun w => trivial) (d_skip 12 true 91 rfl rfl rfl (fun v w h => Or.inl h) (fun w => trivial) (d_skip 12 true 91 rfl rfl rfl (fun v w h => Or.inl h) (fun w => trivial) (d_skip 12 true 91 rfl rfl rfl (fun v w h => Or.inl h) (fun w => trivial) (d_skip 12 true 91 rfl rfl rfl (fun v w h => Or.inl h) (fun w => trivial) (d_skip 12 true 91 rfl rfl rfl (fun v w h => Or.inl h) (fun w => trivial) (d_step rfl rfl ?_ (d_nil)))))))))))))))))))))))
              · intro xv_ wx ρ hρ hwx hd K hK
                have e3 : ρ (.tmp 3) = .pointer (some ⟨q6, 0, none⟩) := (hρ.inn 3 rfl).trans s3
                refine g_field (r := 1) rfl e3 Try.underlying50 rfl (fun w => Try.sizeOf47 w) rfl rfl ?_
                exact hK _ _ (Below.refl _ _) rfl
              · intro xv_ wx ρ hρ hwx hd K hK
                obtain r0 : xv_ 0 = .pointer (some ⟨q6, 1, none⟩) := hd 0 rfl
                have e79 : ρ (.tmp 79) = .pointer (some ⟨q6, 1, none⟩) := (hρ.out 0 79 rfl (by rw [hs.size]; decide) rfl).trans r0
                have h_q6 := keep_below h_q6 hwx
                refine g_load rfl e79 Try.isAgg47 (box_cell h_q6 rfl) ?_
                exact hK _ _ (Below.refl _ _) rfl
              · intro xv_ wx ρ hρ hwx hd K hK
                have e9 : ρ (.tmp 9) = .int .i64 ((j : Nat) : Int) := (hρ.inn 9 rfl).trans s9
                refine g_move rfl e9 ?_
                exact hK _ _ (Below.refl _ _) rfl
              · intro xv_ wx ρ hρ hwx hd K hK
                obtain r1 : xv_ 1 = .slice Z zs.length cz := hd 1 rfl
                have e80 : ρ (.tmp 80) = .slice Z zs.length cz := (hρ.out 1 80 rfl (by rw [hs.size]; decide) rfl).trans r1
                obtain r2 : xv_ 2 = .int .i64 ((j : Nat) : Int) := hd 2 rfl
                have e81 : ρ (.tmp 81) = .int .i64 ((j : Nat) : Int) := (hρ.out 2 81 rfl (by rw [hs.size]; decide) rfl).trans r2
                refine g_index (r := o73 + j * 4) (k := j) rfl (e80.trans (slice_at hA74)) e81 Try.underlying47 (fun w => Try.sizeOf26 w) (by omega) rfl ?_
                exact hK _ _ (Below.refl _ _) rfl
              · intro xv_ wx ρ hρ hwx hd K hK
                obtain r3 : xv_ 3 = .pointer (some ⟨b72, o73 + j * 4, none⟩) := hd 3 rfl
                have e82 : ρ (.tmp 82) = .pointer (some ⟨b72, o73 + j * 4, none⟩) := (hρ.out 3 82 rfl (by rw [hs.size]; decide) rfl).trans r3
                refine g_field (r := o73 + j * 4) rfl e82 Try.underlying26 rfl (fun w => Try.sizeOf3 w) rfl rfl ?_
                exact hK _ _ (Below.refl _ _) rfl
              · intro xv_ wx ρ hρ hwx hd K hK
                obtain r4 : xv_ 4 = .pointer (some ⟨b72, o73 + j * 4, none⟩) := hd 4 rfl
                have e83 : ρ (.tmp 83) = .pointer (some ⟨b72, o73 + j * 4, none⟩) := (hρ.out 4 83 rfl (by rw [hs.size]; decide) rfl).trans r4
                have hc75 := elem_below hc75 hwx hl_hc75
                refine g_load rfl e83 Try.isAgg3 (by first | exact hc75 0 _ (by decide) rfl | (rw [Nat.add_assoc]; exact hc75 0 _ (by decide) rfl)) ?_
                exact hK _ _ (Below.refl _ _) rfl
              · intro xv_ wx ρ hρ hwx hd K hK
                have e7 : ρ (.tmp 7) = .pointer (some ⟨q26, 0, none⟩) := (hρ.inn 7 rfl).trans s7
                refine g_field (r := 2) rfl e7 Try.underlying50 rfl (fun w => Try.sizeOf48 w) rfl rfl ?_
                exact hK _ _ (Below.refl _ _) rfl
              · intro xv_ wx ρ hρ hwx hd K hK
                obtain r6 : xv_ 6 = .pointer (some ⟨q26, 2, none⟩) := hd 6 rfl
                have e85 : ρ (.tmp 85) = .pointer (some ⟨q26, 2, none⟩) := (hρ.out 6 85 rfl (by rw [hs.size]; decide) rfl).trans r6
                have h_q26 := keep_below h_q26 hwx
                refine g_load rfl e85 Try.isAgg48 (box_cell h_q26 rfl) ?_
                exact hK _ _ (Below.refl _ _) rfl
              · intro xv_ wx ρ hρ hwx hd K hK
                have e8 : ρ (.tmp 8) = .int .i64 ((i : Nat) : Int) := (hρ.inn 8 rfl).trans s8
                refine g_move rfl e8 ?_
                exact hK _ _ (Below.refl _ _) rfl
              · intro xv_ wx ρ hρ hwx hd K hK
                obtain r7 : xv_ 7 = .slice B24 es.length d24 := hd 7 rfl
                have e86 : ρ (.tmp 86) = .slice B24 es.length d24 := (hρ.out 7 86 rfl (by rw [hs.size]; decide) rfl).trans r7
                obtain r8 : xv_ 8 = .int .i64 ((i : Nat) : Int) := hd 8 rfl
                have e87 : ρ (.tmp 87) = .int .i64 ((i : Nat) : Int) := (hρ.out 8 87 rfl (by rw [hs.size]; decide) rfl).trans r8
                refine g_index (r := o77 + i * 1) (k := i) rfl (e86.trans (slice_at hA78)) e87 Try.underlying48 (fun w => Try.sizeOf3 w) (by omega) rfl ?_
                exact hK _ _ (Below.refl _ _) rfl
              · intro xv_ wx ρ hρ hwx hd K hK
                obtain r9 : xv_ 9 = .pointer (some ⟨b76, o77 + i * 1, none⟩) := hd 9 rfl
                have e88 : ρ (.tmp 88) = .pointer (some ⟨b76, o77 + i * 1, none⟩) := (hρ.out 9 88 rfl (by rw [hs.size]; decide) rfl).trans r9
                have hc79 := elem_below hc79 hwx hl_hc79
                refine g_load rfl e88 Try.isAgg3 (by first | exact hc79 0 _ (by decide) rfl | (rw [Nat.add_assoc]; exact hc79 0 _ (by decide) rfl)) ?_
                exact hK _ _ (Below.refl _ _) rfl
              · intro xv_ wx ρ hρ hwx hd K hK
                obtain r5 : xv_ 5 = .int .i64 (zs[j].f0) := hd 5 rfl
                have e84 : ρ (.tmp 84) = .int .i64 (zs[j].f0) := (hρ.out 5 84 rfl (by rw [hs.size]; decide) rfl).trans r5
                obtain r10 : xv_ 10 = .int .i64 es[i] := hd 10 rfl
                have e89 : ρ (.tmp 89) = .int .i64 es[i] := (hρ.out 10 89 rfl (by rw [hs.size]; decide) rfl).trans r10
                refine g_eql rfl e84 e89 ?_
                exact hK _ _ (Below.refl _ _) (congrArg Value.bool (decide_eq_false heq))
              · intro xv_ wx ρ hρ hwx hd K hK
                obtain r11 : xv_ 11 = .bool false := hd 11 rfl
                have e90 : ρ (.tmp 90) = .bool false := (hρ.out 11 90 rfl (by rw [hs.size]; decide) rfl).trans r11
                refine g_move rfl e90 ?_
                exact hK _ _ (Below.refl _ _) rfl
              · intro xv_ wx ρ hρ hwx hd K hK
                obtain r12 : xv_ 12 = .bool false := hd 12 rfl
                have e91 : ρ (.tmp 91) = .bool false := (hρ.out 12 91 rfl (by rw [hs.size]; decide) rfl).trans r12
                refine g_pick_f rfl e91 ((hρ.cst _)) ?_
                exact hK _ _ (Below.refl _ _) rfl
            · intro x0_ w80 hb_w80 hr0
              obtain r0 : x0_ 0 = .pointer (some ⟨q6, 1, none⟩) := hr0 0 (by decide) rfl rfl
              obtain r1 : x0_ 1 = .slice Z zs.length cz := hr0 1 (by decide) rfl rfl
              obtain r2 : x0_ 2 = .int .i64 ((j : Nat) : Int) := hr0 2 (by decide) rfl rfl
              obtain r3 : x0_ 3 = .pointer (some ⟨b72, o73 + j * 4, none⟩) := hr0 3 (by decide) rfl rfl
              obtain r4 : x0_ 4 = .pointer (some ⟨b72, o73 + j * 4, none⟩) := hr0 4 (by decide) rfl rfl
              obtain r5 : x0_ 5 = .int .i64 (zs[j].f0) := hr0 5 (by decide) rfl rfl
              obtain r6 : x0_ 6 = .pointer (some ⟨q26, 2, none⟩) := hr0 6 (by decide) rfl rfl
              obtain r7 : x0_ 7 = .slice B24 es.length d24 := hr0 7 (by decide) rfl rfl
              obtain r8 : x0_ 8 = .int .i64 ((i : Nat) : Int) := hr0 8 (by decide) rfl rfl
              obtain r9 : x0_ 9 = .pointer (some ⟨b76, o77 + i * 1, none⟩) := hr0 9 (by decide) rfl rfl
              obtain r10 : x0_ 10 = .int .i64 es[i] := hr0 10 (by decide) rfl rfl
              obtain r11 : x0_ 11 = .bool false := hr0 11 (by decide) rfl rfl
              obtain r12 : x0_ 12 = .bool false := hr0 12 (by decide) rfl rfl
              obtain r22 : x0_ 22 = .bool false := hr0 22 (by decide) rfl rfl
              clear hr0
              replace h_q6 := keep_below h_q6 hb_w80
              replace h_q19 := keep_below h_q19 hb_w80
              replace h_q26 := keep_below h_q26 hb_w80
              replace o_z := own_below o_z hb_w80
              replace o_d := own_below o_d hb_w80
              replace o_zy := own_below o_zy hb_w80
              replace o_dy := own_below o_dy hb_w80
              replace hB := hB.trans (hb_w80.mono hB.size)
              clear hb_w80
              intro xv_ a73 hρ hsz hdf qx_ ql_ qk_ qlk_
              replace s0 : a73.eval (.tmp 0) = .slice A n c := (hρ.inn 0 rfl).trans s0
              replace s2 : a73.eval (.tmp 2) = .bool false := (hρ.inn 2 rfl).trans s2
              replace s3 : a73.eval (.tmp 3) = .pointer (some ⟨q6, 0, none⟩) := (hρ.inn 3 rfl).trans s3
              replace s4 : a73.eval (.tmp 4) = .int .i64 ((k : Nat) : Int) := (hρ.inn 4 rfl).trans s4
              replace s5 : a73.eval (.tmp 5) = .pointer (some ⟨q19, 0, none⟩) := (hρ.inn 5 rfl).trans s5
              replace s6 : a73.eval (.tmp 6) = .int .i64 (6 + (((x.f3).length : Nat) : Int)) := (hρ.inn 6 rfl).trans s6
              replace s7 : a73.eval (.tmp 7) = .pointer (some ⟨q26, 0, none⟩) := (hρ.inn 7 rfl).trans s7
              replace s8 : a73.eval (.tmp 8) = .int .i64 ((i : Nat) : Int) := (hρ.inn 8 rfl).trans s8
              replace s9 : a73.eval (.tmp 9) = .int .i64 ((j : Nat) : Int) := (hρ.inn 9 rfl).trans s9
              replace s19 : a73.eval (.tmp 19) = .bool true := (hρ.inn 19 rfl).trans s19
              replace s61 : a73.eval (.tmp 61) = .bool false := (hρ.inn 61 rfl).trans s61
              replace s69 : a73.eval (.tmp 69) = .bool true := (hρ.inn 69 rfl).trans s69
              replace s76 : a73.eval (.tmp 76) = .bool true := (hρ.inn 76 rfl).trans s76
              have s101 : a73.eval (.tmp 101) = .bool false := (hρ.out 22 101 rfl (by rw [hs.size]; decide)).trans ((qx_ 22 (by decide) rfl rfl).trans r22)
              replace hs : St 152 a73 := ⟨hsz.trans hs.size, hdf.trans hs.nodef⟩
              clear hρ hsz hdf qx_ ql_ qk_ qlk_
              refine hK50 _ _ ?_
              clear hK50
              refine c_false s101 ?_
              refine wp_skip ?_
              refine hK49 _ _ ?_
              clear hK49
              refine wp_region_lit ?_
              refine q_val rfl rfl ?_
              refine g_move rfl s9 ?_
              intro a74 p74
              have s77 : a74.eval (.tmp 77) = .int .i64 ((j : Nat) : Int) := p74.at hs (by decide)
              replace hs := p74.st hs
              refine q_val rfl rfl ?_
              refine g_add (r := ((j + 1 : Nat) : Int)) rfl s77 rfl (by omega) (by omega) ?_
              intro a75 p75
              have s78 : a75.eval (.tmp 78) = .int .i64 ((j + 1 : Nat) : Int) := p75.at hs (by decide)
              replace hs := p75.st hs
              refine q_val rfl rfl ?_
              refine g_assign rfl s78 ?_
              intro a76 p76
              have s9 : a76.eval (.tmp 9) = .int .i64 ((j + 1 : Nat) : Int) := p76.at hs (by decide)
              replace hs := p76.st hs
              refine wpList_nil ?_
              replace s0 : a76.eval (.tmp 0) = .slice A n c := ((p76.ne rfl).trans ((p75.ne rfl).trans (p74.ne rfl))).trans s0
              replace s2 : a76.eval (.tmp 2) = .bool false := ((p76.ne rfl).trans ((p75.ne rfl).trans (p74.ne rfl))).trans s2
              replace s3 : a76.eval (.tmp 3) = .pointer (some ⟨q6, 0, none⟩) := ((p76.ne rfl).trans ((p75.ne rfl).trans (p74.ne rfl))).trans s3
              replace s4 : a76.eval (.tmp 4) = .int .i64 ((k : Nat) : Int) := ((p76.ne rfl).trans ((p75.ne rfl).trans (p74.ne rfl))).trans s4
              replace s5 : a76.eval (.tmp 5) = .pointer (some ⟨q19, 0, none⟩) := ((p76.ne rfl).trans ((p75.ne rfl).trans (p74.ne rfl))).trans s5
              replace s6 : a76.eval (.tmp 6) = .int .i64 (6 + (((x.f3).length : Nat) : Int)) := ((p76.ne rfl).trans ((p75.ne rfl).trans (p74.ne rfl))).trans s6
              replace s7 : a76.eval (.tmp 7) = .pointer (some ⟨q26, 0, none⟩) := ((p76.ne rfl).trans ((p75.ne rfl).trans (p74.ne rfl))).trans s7
              replace s8 : a76.eval (.tmp 8) = .int .i64 ((i : Nat) : Int) := ((p76.ne rfl).trans ((p75.ne rfl).trans (p74.ne rfl))).trans s8
              replace s19 : a76.eval (.tmp 19) = .bool true := ((p76.ne rfl).trans ((p75.ne rfl).trans (p74.ne rfl))).trans s19
              replace s61 : a76.eval (.tmp 61) = .bool false := ((p76.ne rfl).trans ((p75.ne rfl).trans (p74.ne rfl))).trans s61
              replace s69 : a76.eval (.tmp 69) = .bool true := ((p76.ne rfl).trans ((p75.ne rfl).trans (p74.ne rfl))).trans s69
              replace s76 : a76.eval (.tmp 76) = .bool true := ((p76.ne rfl).trans ((p75.ne rfl).trans (p74.ne rfl))).trans s76
              replace s101 : a76.eval (.tmp 101) = .bool false := ((p76.ne rfl).trans ((p75.ne rfl).trans (p74.ne rfl))).trans s101
              refine show _ ∧ _ from ⟨⟨j + 1, hs, s0, s2, s3, s4, s5, s6, s7, s8, s9, s19, s61, s69, hB, h_q6, h_q19, h_q26, o_z, o_d, o_zy, o_dy, (by omega)⟩, ?_⟩
              show zs.length - (intOf (a76.eval (.tmp 9))).toNat < zs.length - (intOf (a67.eval (.tmp 9))).toNat
              rw [s9, mu45]
              simp only [intOf]
              omega
        · replace s76 := s76.trans (congrArg Value.bool (decide_eq_false hc48))
          replace s76 : a72.eval (.tmp 76) = .bool false := s76
          refine c_false s76 ?_
          refine wp_exit ?_
          refine hK41 _ _ ?_
          clear hK41
          refine wp_region_lit ?_
          refine q_val rfl rfl ?_
          refine g_move rfl s8 ?_
          intro a73 p73
          have s70 : a73.eval (.tmp 70) = .int .i64 ((i : Nat) : Int) := p73.at hs (by decide)
          replace hs := p73.st hs
          refine q_val rfl rfl ?_
          refine g_add (r := ((i + 1 : Nat) : Int)) rfl s70 rfl (by omega) (by omega) ?_
          intro a74 p74
          have s71 : a74.eval (.tmp 71) = .int .i64 ((i + 1 : Nat) : Int) := p74.at hs (by decide)
          replace hs := p74.st hs
          refine q_val rfl rfl ?_
          refine g_assign rfl s71 ?_
          intro a75 p75
          have s8 : a75.eval (.tmp 8) = .int .i64 ((i + 1 : Nat) : Int) := p75.at hs (by decide)
          replace hs := p75.st hs
          refine wpList_nil ?_
          replace s0 : a75.eval (.tmp 0) = .slice A n c := ((p75.ne rfl).trans ((p74.ne rfl).trans (p73.ne rfl))).trans s0
          replace s2 : a75.eval (.tmp 2) = .bool false := ((p75.ne rfl).trans ((p74.ne rfl).trans (p73.ne rfl))).trans s2
          replace s3 : a75.eval (.tmp 3) = .pointer (some ⟨q6, 0, none⟩) := ((p75.ne rfl).trans ((p74.ne rfl).trans (p73.ne rfl))).trans s3
          replace s4 : a75.eval (.tmp 4) = .int .i64 ((k : Nat) : Int) := ((p75.ne rfl).trans ((p74.ne rfl).trans (p73.ne rfl))).trans s4
          replace s19 : a75.eval (.tmp 19) = .bool true := ((p75.ne rfl).trans ((p74.ne rfl).trans (p73.ne rfl))).trans s19
          replace s5 : a75.eval (.tmp 5) = .pointer (some ⟨q19, 0, none⟩) := ((p75.ne rfl).trans ((p74.ne rfl).trans (p73.ne rfl))).trans s5
          replace s6 : a75.eval (.tmp 6) = .int .i64 (6 + (((x.f3).length : Nat) : Int)) := ((p75.ne rfl).trans ((p74.ne rfl).trans (p73.ne rfl))).trans s6
          replace s7 : a75.eval (.tmp 7) = .pointer (some ⟨q26, 0, none⟩) := ((p75.ne rfl).trans ((p74.ne rfl).trans (p73.ne rfl))).trans s7
          replace s61 : a75.eval (.tmp 61) = .bool false := ((p75.ne rfl).trans ((p74.ne rfl).trans (p73.ne rfl))).trans s61
          replace s69 : a75.eval (.tmp 69) = .bool true := ((p75.ne rfl).trans ((p74.ne rfl).trans (p73.ne rfl))).trans s69
          replace s9 : a75.eval (.tmp 9) = .int .i64 ((j : Nat) : Int) := ((p75.ne rfl).trans ((p74.ne rfl).trans (p73.ne rfl))).trans s9
          replace s76 : a75.eval (.tmp 76) = .bool false := ((p75.ne rfl).trans ((p74.ne rfl).trans (p73.ne rfl))).trans s76
          refine show _ ∧ _ from ⟨⟨i + 1, hs, s0, s2, s3, s4, s5, s6, s7, s8, s19, s61, hB, h_q6, h_q19, h_q26, o_z, o_d, o_zy, o_dy, (by omega), (by omega)⟩, ?_⟩
          show es.length - (intOf (a75.eval (.tmp 8))).toNat < es.length - (intOf (a60.eval (.tmp 8))).toNat
          rw [s8, mu37]
          simp only [intOf]
          omega
      · replace s69 := s69.trans (congrArg Value.bool (decide_eq_false hc40))
        replace s69 : a65.eval (.tmp 69) = .bool false := s69
        refine c_false s69 ?_
        refine wp_exit ?_
        refine hK33 _ _ ?_
        clear hK33
        refine wp_seq_k fun K81 hK81 => ?_
        refine wp_seq_k fun K82 hK82 => ?_
        refine wp_region_lit ?_
        refine q_val rfl rfl ?_
        refine g_move rfl s6 ?_
        intro a66 p66
        have s102 : a66.eval (.tmp 102) = .int .i64 (6 + (((x.f3).length : Nat) : Int)) := p66.at hs (by decide)
        replace hs := p66.st hs
        refine q_val rfl rfl ?_
        refine g_loadB rfl ((p66.ne rfl).trans s3) Try.isAgg50 Try.sizeOf50 rfl h_q6 ?_
        intro a67 p67
        have s103 : a67.eval (.tmp 103) = .agg #[.int .i64 room, .slice Z zs.length cz, .slice D ds.length cd] := p67.at hs (by decide)
        replace hs := p67.st hs
        refine q_val rfl rfl ?_
        refine g_call rfl rfl Try.call36 (arr1 s103) ?_
        refine (roomLeft_g hG (by omega) rfl (Rd.of_own o_z) rfl (Rd.of_own o_d)).mono ?_
        rintro e w84 ⟨rfl, hb83⟩
        refine ⟨_, rfl, ?_⟩
        replace h_q6 := keep_below h_q6 hb83
        replace h_q19 := keep_below h_q19 hb83
        replace h_q26 := keep_below h_q26 hb83
        replace o_z := own_below o_z hb83
        replace o_d := own_below o_d hb83
        replace o_zy := own_below o_zy hb83
        replace o_dy := own_below o_dy hb83
        replace hB := hB.trans (hb83.mono hB.size)
        clear hb83
        intro a68 p68
        have s104 : a68.eval (.tmp 104) = .int .i64 (room - ((usedN zs : Nat) : Int)) := p68.at hs (by decide)
        replace hs := p68.st hs
        refine q_val rfl rfl ?_
        refine g_leq rfl (((p68.ne rfl).trans (p67.ne rfl)).trans s102) s104 ?_
        intro a69 p69
        have s105 : a69.eval (.tmp 105) = .bool (decide (6 + (((x.f3).length : Nat) : Int) ≤ room - ((usedN zs : Nat) : Int))) := p69.at hs (by decide)
        replace hs := p69.st hs
        refine q_val rfl rfl ?_
        refine g_move rfl s105 ?_
        intro a70 p70
        have s106 : a70.eval (.tmp 106) = .bool (decide (6 + (((x.f3).length : Nat) : Int) ≤ room - ((usedN zs : Nat) : Int))) := p70.at hs (by decide)
        replace hs := p70.st hs
        by_cases hneed : 6 + (((x.f3).length : Nat) : Int) ≤ room - ((usedN zs : Nat) : Int)
        · replace s105 := s105.trans (congrArg Value.bool (decide_eq_true hneed))
          replace s105 : a69.eval (.tmp 105) = .bool true := s105
          replace s106 := s106.trans (congrArg Value.bool (decide_eq_true hneed))
          replace s106 : a70.eval (.tmp 106) = .bool true := s106
          refine q_take rfl rfl s106 rfl ?_
          refine g_field (r := 2) rfl (((p70.ne rfl).trans ((p69.ne rfl).trans ((p68.ne rfl).trans ((p67.ne rfl).trans (p66.ne rfl))))).trans s7) Try.underlying50 rfl (fun w => Try.sizeOf48 w) rfl rfl ?_
          intro a71 p71
          have s107 : a71.eval (.tmp 107) = .pointer (some ⟨q26, 2, none⟩) := p71.at hs (by decide)
          replace hs := p71.st hs
          refine q_take rfl rfl ((p71.ne rfl).trans s106) rfl ?_
          refine g_load rfl s107 Try.isAgg48 (box_cell h_q26 rfl) ?_
          intro a72 p72
          have s108 : a72.eval (.tmp 108) = .slice B24 es.length d24 := p72.at hs (by decide)
          replace hs := p72.st hs
          refine q_take rfl rfl (((p72.ne rfl).trans (p71.ne rfl)).trans s106) rfl ?_
          refine g_len (e := _) rfl Try.underlying48 s108 ?_
          intro a73 p73
          have s109 : a73.eval (.tmp 109) = .int .i64 ((es.length : Nat) : Int) := p73.at hs (by decide)
          replace hs := p73.st hs
          refine q_take rfl rfl (((p73.ne rfl).trans ((p72.ne rfl).trans (p71.ne rfl))).trans s106) rfl ?_
          refine g_field (r := 2) rfl (((p73.ne rfl).trans ((p72.ne rfl).trans ((p71.ne rfl).trans ((p70.ne rfl).trans ((p69.ne rfl).trans ((p68.ne rfl).trans ((p67.ne rfl).trans (p66.ne rfl)))))))).trans s3) Try.underlying50 rfl (fun w => Try.sizeOf48 w) rfl rfl ?_
          intro a74 p74
          have s110 : a74.eval (.tmp 110) = .pointer (some ⟨q6, 2, none⟩) := p74.at hs (by decide)
          replace hs := p74.st hs
          refine q_take rfl rfl (((p74.ne rfl).trans ((p73.ne rfl).trans ((p72.ne rfl).trans (p71.ne rfl)))).trans s106) rfl ?_
          refine g_load rfl s110 Try.isAgg48 (box_cell h_q6 rfl) ?_
          intro a75 p75
          have s111 : a75.eval (.tmp 111) = .slice D ds.length cd := p75.at hs (by decide)
          replace hs := p75.st hs
          refine q_take rfl rfl (((p75.ne rfl).trans ((p74.ne rfl).trans ((p73.ne rfl).trans ((p72.ne rfl).trans (p71.ne rfl))))).trans s106) rfl ?_
          refine g_len (e := _) rfl Try.underlying48 s111 ?_
          intro a76 p76
          have s112 : a76.eval (.tmp 112) = .int .i64 ((ds.length : Nat) : Int) := p76.at hs (by decide)
          replace hs := p76.st hs
          refine q_take rfl rfl (((p76.ne rfl).trans ((p75.ne rfl).trans ((p74.ne rfl).trans ((p73.ne rfl).trans ((p72.ne rfl).trans (p71.ne rfl)))))).trans s106) rfl ?_
          refine g_gtr rfl (((p76.ne rfl).trans ((p75.ne rfl).trans (p74.ne rfl))).trans s109) s112 ?_
          intro a77 p77
          have s113 : a77.eval (.tmp 113) = .bool false := (p77.at hs (by decide)).trans (congrArg Value.bool (decide_eq_false (by have h9 := hg3 (by unfold recSz; omega); have h8 := congrArg List.length hg1; rw [h9] at h8; simp only [List.length_append, List.length_nil] at h8; omega)))
          replace hs := p77.st hs
          refine q_val rfl rfl ?_
          refine g_pick_t rfl (((p77.ne rfl).trans ((p76.ne rfl).trans ((p75.ne rfl).trans ((p74.ne rfl).trans ((p73.ne rfl).trans ((p72.ne rfl).trans (p71.ne rfl))))))).trans s106) s113 ?_
          intro a78 p78
          have s114 : a78.eval (.tmp 114) = .bool false := p78.at hs (by decide)
          replace hs := p78.st hs
          refine wpList_nil ?_
          replace s0 : a78.eval (.tmp 0) = .slice A n c := ((p78.ne rfl).trans ((p77.ne rfl).trans ((p76.ne rfl).trans ((p75.ne rfl).trans ((p74.ne rfl).trans ((p73.ne rfl).trans ((p72.ne rfl).trans ((p71.ne rfl).trans ((p70.ne rfl).trans ((p69.ne rfl).trans ((p68.ne rfl).trans ((p67.ne rfl).trans (p66.ne rfl))))))))))))).trans s0
          replace s2 : a78.eval (.tmp 2) = .bool false := ((p78.ne rfl).trans ((p77.ne rfl).trans ((p76.ne rfl).trans ((p75.ne rfl).trans ((p74.ne rfl).trans ((p73.ne rfl).trans ((p72.ne rfl).trans ((p71.ne rfl).trans ((p70.ne rfl).trans ((p69.ne rfl).trans ((p68.ne rfl).trans ((p67.ne rfl).trans (p66.ne rfl))))))))))))).trans s2
          replace s3 : a78.eval (.tmp 3) = .pointer (some ⟨q6, 0, none⟩) := ((p78.ne rfl).trans ((p77.ne rfl).trans ((p76.ne rfl).trans ((p75.ne rfl).trans ((p74.ne rfl).trans ((p73.ne rfl).trans ((p72.ne rfl).trans ((p71.ne rfl).trans ((p70.ne rfl).trans ((p69.ne rfl).trans ((p68.ne rfl).trans ((p67.ne rfl).trans (p66.ne rfl))))))))))))).trans s3
          replace s4 : a78.eval (.tmp 4) = .int .i64 ((k : Nat) : Int) := ((p78.ne rfl).trans ((p77.ne rfl).trans ((p76.ne rfl).trans ((p75.ne rfl).trans ((p74.ne rfl).trans ((p73.ne rfl).trans ((p72.ne rfl).trans ((p71.ne rfl).trans ((p70.ne rfl).trans ((p69.ne rfl).trans ((p68.ne rfl).trans ((p67.ne rfl).trans (p66.ne rfl))))))))))))).trans s4
          replace s19 : a78.eval (.tmp 19) = .bool true := ((p78.ne rfl).trans ((p77.ne rfl).trans ((p76.ne rfl).trans ((p75.ne rfl).trans ((p74.ne rfl).trans ((p73.ne rfl).trans ((p72.ne rfl).trans ((p71.ne rfl).trans ((p70.ne rfl).trans ((p69.ne rfl).trans ((p68.ne rfl).trans ((p67.ne rfl).trans (p66.ne rfl))))))))))))).trans s19
          replace s5 : a78.eval (.tmp 5) = .pointer (some ⟨q19, 0, none⟩) := ((p78.ne rfl).trans ((p77.ne rfl).trans ((p76.ne rfl).trans ((p75.ne rfl).trans ((p74.ne rfl).trans ((p73.ne rfl).trans ((p72.ne rfl).trans ((p71.ne rfl).trans ((p70.ne rfl).trans ((p69.ne rfl).trans ((p68.ne rfl).trans ((p67.ne rfl).trans (p66.ne rfl))))))))))))).trans s5
          replace s6 : a78.eval (.tmp 6) = .int .i64 (6 + (((x.f3).length : Nat) : Int)) := ((p78.ne rfl).trans ((p77.ne rfl).trans ((p76.ne rfl).trans ((p75.ne rfl).trans ((p74.ne rfl).trans ((p73.ne rfl).trans ((p72.ne rfl).trans ((p71.ne rfl).trans ((p70.ne rfl).trans ((p69.ne rfl).trans ((p68.ne rfl).trans ((p67.ne rfl).trans (p66.ne rfl))))))))))))).trans s6
          replace s7 : a78.eval (.tmp 7) = .pointer (some ⟨q26, 0, none⟩) := ((p78.ne rfl).trans ((p77.ne rfl).trans ((p76.ne rfl).trans ((p75.ne rfl).trans ((p74.ne rfl).trans ((p73.ne rfl).trans ((p72.ne rfl).trans ((p71.ne rfl).trans ((p70.ne rfl).trans ((p69.ne rfl).trans ((p68.ne rfl).trans ((p67.ne rfl).trans (p66.ne rfl))))))))))))).trans s7
          replace s61 : a78.eval (.tmp 61) = .bool false := ((p78.ne rfl).trans ((p77.ne rfl).trans ((p76.ne rfl).trans ((p75.ne rfl).trans ((p74.ne rfl).trans ((p73.ne rfl).trans ((p72.ne rfl).trans ((p71.ne rfl).trans ((p70.ne rfl).trans ((p69.ne rfl).trans ((p68.ne rfl).trans ((p67.ne rfl).trans (p66.ne rfl))))))))))))).trans s61
          replace s8 : a78.eval (.tmp 8) = .int .i64 ((i : Nat) : Int) := ((p78.ne rfl).trans ((p77.ne rfl).trans ((p76.ne rfl).trans ((p75.ne rfl).trans ((p74.ne rfl).trans ((p73.ne rfl).trans ((p72.ne rfl).trans ((p71.ne rfl).trans ((p70.ne rfl).trans ((p69.ne rfl).trans ((p68.ne rfl).trans ((p67.ne rfl).trans (p66.ne rfl))))))))))))).trans s8
          replace s69 : a78.eval (.tmp 69) = .bool false := ((p78.ne rfl).trans ((p77.ne rfl).trans ((p76.ne rfl).trans ((p75.ne rfl).trans ((p74.ne rfl).trans ((p73.ne rfl).trans ((p72.ne rfl).trans ((p71.ne rfl).trans ((p70.ne rfl).trans ((p69.ne rfl).trans ((p68.ne rfl).trans ((p67.ne rfl).trans (p66.ne rfl))))))))))))).trans s69
          refine hK82 _ _ ?_
          clear hK82
          refine c_false s114 ?_
          refine wp_skip ?_
          refine hK81 _ _ ?_
          clear hK81
          refine wp_seq_k fun K85 hK85 => ?_
          have jK85 : ∀ (a : Act) (wr : World), (St 152 a) ∧ (a.eval (.tmp 0) = .slice A n c) ∧ (a.eval (.tmp 2) = .bool false) ∧ (a.eval (.tmp 3) = .pointer (some ⟨q6, 0, none⟩)) ∧ (a.eval (.tmp 4) = .int .i64 ((k : Nat) : Int)) ∧ (a.eval (.tmp 5) = .pointer (some ⟨q19, 0, none⟩)) ∧ (a.eval (.tmp 6) = .int .i64 (6 + (((x.f3).length : Nat) : Int))) ∧ (a.eval (.tmp 7) = .pointer (some ⟨q26, 0, none⟩)) ∧ (a.eval (.tmp 8) = .int .i64 ((i : Nat) : Int)) ∧ (a.eval (.tmp 19) = .bool true) ∧ (a.eval (.tmp 61) = .bool false) ∧ (a.eval (.tmp 69) = .bool false) ∧ (a.eval (.tmp 114) = .bool false) ∧ (Below w.heap.size w wr) ∧ (wr.heap[q6]? = some (.cells #[.int .i64 room, .slice Z zs.length cz, .slice D ds.length cd] 50 (0, 0))) ∧ (wr.heap[q19]? = some (.cells #[.int .i64 x.f0, .int .i64 x.f1, .int .i64 x.f2, .string ⟨(x.f3).toArray⟩] 26 (0, 0))) ∧ (wr.heap[q26]? = some (.cells #[.int .i64 room, .slice A24 ys.length c24, .slice B24 es.length d24] 50 (0, 0))) ∧ (wr.ownsRow w.heap.size 26 4 (.slice Z zs.length cz) zs.length (zs.flatMap cRecord)) ∧ (wr.ownsRow w.heap.size 3 1 (.slice D ds.length cd) ds.length (ds.flatMap cI)) ∧ (wr.ownsRow w.heap.size 26 4 (.slice A24 ys.length c24) ys.length (ys.flatMap cRecord)) ∧ (wr.ownsRow w.heap.size 3 1 (.slice B24 es.length d24) es.length (es.flatMap cI)) → K85 a wr := by
            rintro a79 w86 ⟨hs, s0, s2, s3, s4, s5, s6, s7, s8, s19, s61, s69, s114, hB, h_q6, h_q19, h_q26, o_z, o_d, o_zy, o_dy⟩
            refine hK85 _ _ ?_
            clear hK85
            refine wp_region_lit ?_
            refine q_val rfl rfl ?_
            refine g_loadB rfl s7 Try.isAgg50 Try.sizeOf50 rfl h_q26 ?_
            intro a80 p80
            have s149 : a80.eval (.tmp 149) = .agg #[.int .i64 room, .slice A24 ys.length c24, .slice B24 es.length d24] := p80.at hs (by decide)
            replace hs := p80.st hs
            refine q_eff rfl rfl ?_
            refine g_storeB rfl ((p80.ne rfl).trans s3) s149 Try.sizeOf50 rfl rfl h_q6 rfl ?_
            intro w87 W_w87
            replace h_q6 := W_w87.here
            replace h_q19 := keep_wrote h_q19 W_w87 n_q6_q19
            replace h_q26 := keep_wrote h_q26 W_w87 n_q6_q26
            replace o_z := own_wrote o_z W_w87 d_z_q6
            replace o_d := own_wrote o_d W_w87 d_d_q6
            replace o_zy := own_wrote o_zy W_w87 d_zy_q6
            replace o_dy := own_wrote o_dy W_w87 d_dy_q6
            replace hB := below_wrote hB hB.size W_w87 g_q6.le
            clear W_w87
            refine wpList_nil ?_
            replace s0 : a80.eval (.tmp 0) = .slice A n c := (p80.ne rfl).trans s0
            replace s2 : a80.eval (.tmp 2) = .bool false := (p80.ne rfl).trans s2
            replace s3 : a80.eval (.tmp 3) = .pointer (some ⟨q6, 0, none⟩) := (p80.ne rfl).trans s3
            replace s4 : a80.eval (.tmp 4) = .int .i64 ((k : Nat) : Int) := (p80.ne rfl).trans s4
            replace s19 : a80.eval (.tmp 19) = .bool true := (p80.ne rfl).trans s19
            replace s5 : a80.eval (.tmp 5) = .pointer (some ⟨q19, 0, none⟩) := (p80.ne rfl).trans s5
            replace s6 : a80.eval (.tmp 6) = .int .i64 (6 + (((x.f3).length : Nat) : Int)) := (p80.ne rfl).trans s6
            replace s7 : a80.eval (.tmp 7) = .pointer (some ⟨q26, 0, none⟩) := (p80.ne rfl).trans s7
            replace s61 : a80.eval (.tmp 61) = .bool false := (p80.ne rfl).trans s61
            replace s8 : a80.eval (.tmp 8) = .int .i64 ((i : Nat) : Int) := (p80.ne rfl).trans s8
            replace s69 : a80.eval (.tmp 69) = .bool false := (p80.ne rfl).trans s69
            replace s114 : a80.eval (.tmp 114) = .bool false := (p80.ne rfl).trans s114
            refine hK17 _ _ ?_
            clear hK17
            refine wp_region_lit ?_
            refine q_val rfl rfl ?_
            refine g_move rfl s4 ?_
            intro a81 p81
            have s20 : a81.eval (.tmp 20) = .int .i64 ((k : Nat) : Int) := p81.at hs (by decide)
            replace hs := p81.st hs
            refine q_val rfl rfl ?_
            refine g_add (r := ((k + 1 : Nat) : Int)) rfl s20 rfl (by omega) (by omega) ?_
            intro a82 p82
            have s21 : a82.eval (.tmp 21) = .int .i64 ((k + 1 : Nat) : Int) := p82.at hs (by decide)
            replace hs := p82.st hs
            refine q_val rfl rfl ?_
            refine g_assign rfl s21 ?_
            intro a83 p83
            have s4 : a83.eval (.tmp 4) = .int .i64 ((k + 1 : Nat) : Int) := p83.at hs (by decide)
            replace hs := p83.st hs
            refine wpList_nil ?_
            replace s0 : a83.eval (.tmp 0) = .slice A n c := ((p83.ne rfl).trans ((p82.ne rfl).trans (p81.ne rfl))).trans s0
            replace s2 : a83.eval (.tmp 2) = .bool false := ((p83.ne rfl).trans ((p82.ne rfl).trans (p81.ne rfl))).trans s2
            replace s3 : a83.eval (.tmp 3) = .pointer (some ⟨q6, 0, none⟩) := ((p83.ne rfl).trans ((p82.ne rfl).trans (p81.ne rfl))).trans s3
            replace s19 : a83.eval (.tmp 19) = .bool true := ((p83.ne rfl).trans ((p82.ne rfl).trans (p81.ne rfl))).trans s19
            replace s5 : a83.eval (.tmp 5) = .pointer (some ⟨q19, 0, none⟩) := ((p83.ne rfl).trans ((p82.ne rfl).trans (p81.ne rfl))).trans s5
            replace s6 : a83.eval (.tmp 6) = .int .i64 (6 + (((x.f3).length : Nat) : Int)) := ((p83.ne rfl).trans ((p82.ne rfl).trans (p81.ne rfl))).trans s6
            replace s7 : a83.eval (.tmp 7) = .pointer (some ⟨q26, 0, none⟩) := ((p83.ne rfl).trans ((p82.ne rfl).trans (p81.ne rfl))).trans s7
            replace s61 : a83.eval (.tmp 61) = .bool false := ((p83.ne rfl).trans ((p82.ne rfl).trans (p81.ne rfl))).trans s61
            replace s8 : a83.eval (.tmp 8) = .int .i64 ((i : Nat) : Int) := ((p83.ne rfl).trans ((p82.ne rfl).trans (p81.ne rfl))).trans s8
            replace s69 : a83.eval (.tmp 69) = .bool false := ((p83.ne rfl).trans ((p82.ne rfl).trans (p81.ne rfl))).trans s69
            replace s114 : a83.eval (.tmp 114) = .bool false := ((p83.ne rfl).trans ((p82.ne rfl).trans (p81.ne rfl))).trans s114
            have o_z := o_zy
            have g_z := g_zy
            have d_z_q6 := d_zy_q6
            have m_d_z := m_dy_zy
            have m_z_d := m_zy_dy
            have o_d := o_dy
            have g_d := g_dy
            have d_d_q6 := d_dy_q6
            have m_z_d := m_zy_dy
            have m_d_z := m_dy_zy
            refine show _ ∧ _ from ⟨⟨k + 1, ys, es, _, _, _, _, hs, s0, s2, s3, s4, hB, h_q6, o_z, o_d, d_z_q6, m_d_z, g_z, d_d_q6, m_z_d, g_d, hG2, (by omega)⟩, ?_⟩
            show 20 - (intOf (a83.eval (.tmp 4))).toNat < 20 - (intOf (a10.eval (.tmp 4))).toNat
            rw [s4, mu13]
            simp only [intOf]
            omega
          clear hK85
          refine wp_seq_k fun K88 hK88 => ?_
          have hak3 := atN_le bs (k + 3)
          refine wp_region_lit ?_
          refine q_val rfl rfl ?_
          refine g_move rfl s0 ?_
          intro a79 p79
          have s115 : a79.eval (.tmp 115) = .slice A n c := p79.at hs (by decide)
          replace hs := p79.st hs
          refine q_val rfl rfl ?_
          refine g_move rfl ((p79.ne rfl).trans s4) ?_
          intro a80 p80
          have s116 : a80.eval (.tmp 116) = .int .i64 ((k : Nat) : Int) := p80.at hs (by decide)
          replace hs := p80.st hs
          refine q_val rfl rfl ?_
          refine g_add (r := ((k + 3 : Nat) : Int)) rfl s116 rfl (by omega) (by omega) ?_
          intro a81 p81
          have s117 : a81.eval (.tmp 117) = .int .i64 ((k + 3 : Nat) : Int) := p81.at hs (by decide)
          replace hs := p81.st hs
          refine q_val rfl rfl ?_
          refine g_call rfl rfl Try.call33 (arr2 (((p81.ne rfl).trans (p80.ne rfl)).trans s115) s117) ?_
          refine (at_nat hlen hnc hcm (hr_cc.below hB) (k + 3) (by omega)).mono ?_
          rintro e w' ⟨rfl, rfl⟩
          refine ⟨_, rfl, ?_⟩
          intro a82 p82
          have s118 : a82.eval (.tmp 118) = .int .i64 ((atN bs (k + 3) : Nat) : Int) := p82.at hs (by decide)
          replace hs := p82.st hs
          refine q_val rfl rfl ?_
          refine g_rem (N := atN bs (k + 3)) (M := 5) rfl s118 rfl (by omega) rfl (by decide) (by decide) ?_
          intro a83 p83
          have s119 : a83.eval (.tmp 119) = .int .i64 (((atN bs (k + 3)) % 5 : Nat) : Int) := p83.at hs (by decide)
          replace hs := p83.st hs
          refine q_val rfl rfl ?_
          refine g_eql rfl s119 rfl ?_
          intro a84 p84
          have s120 : a84.eval (.tmp 120) = .bool (decide ((((atN bs (k + 3)) % 5 : Nat) : Int) = 0)) := p84.at hs (by decide)
          replace hs := p84.st hs
          refine wpList_nil ?_
          replace s0 : a84.eval (.tmp 0) = .slice A n c := ((p84.ne rfl).trans ((p83.ne rfl).trans ((p82.ne rfl).trans ((p81.ne rfl).trans ((p80.ne rfl).trans (p79.ne rfl)))))).trans s0
          replace s2 : a84.eval (.tmp 2) = .bool false := ((p84.ne rfl).trans ((p83.ne rfl).trans ((p82.ne rfl).trans ((p81.ne rfl).trans ((p80.ne rfl).trans (p79.ne rfl)))))).trans s2
          replace s3 : a84.eval (.tmp 3) = .pointer (some ⟨q6, 0, none⟩) := ((p84.ne rfl).trans ((p83.ne rfl).trans ((p82.ne rfl).trans ((p81.ne rfl).trans ((p80.ne rfl).trans (p79.ne rfl)))))).trans s3
          replace s4 : a84.eval (.tmp 4) = .int .i64 ((k : Nat) : Int) := ((p84.ne rfl).trans ((p83.ne rfl).trans ((p82.ne rfl).trans ((p81.ne rfl).trans ((p80.ne rfl).trans (p79.ne rfl)))))).trans s4
          replace s19 : a84.eval (.tmp 19) = .bool true := ((p84.ne rfl).trans ((p83.ne rfl).trans ((p82.ne rfl).trans ((p81.ne rfl).trans ((p80.ne rfl).trans (p79.ne rfl)))))).trans s19
          replace s5 : a84.eval (.tmp 5) = .pointer (some ⟨q19, 0, none⟩) := ((p84.ne rfl).trans ((p83.ne rfl).trans ((p82.ne rfl).trans ((p81.ne rfl).trans ((p80.ne rfl).trans (p79.ne rfl)))))).trans s5
          replace s6 : a84.eval (.tmp 6) = .int .i64 (6 + (((x.f3).length : Nat) : Int)) := ((p84.ne rfl).trans ((p83.ne rfl).trans ((p82.ne rfl).trans ((p81.ne rfl).trans ((p80.ne rfl).trans (p79.ne rfl)))))).trans s6
          replace s7 : a84.eval (.tmp 7) = .pointer (some ⟨q26, 0, none⟩) := ((p84.ne rfl).trans ((p83.ne rfl).trans ((p82.ne rfl).trans ((p81.ne rfl).trans ((p80.ne rfl).trans (p79.ne rfl)))))).trans s7
          replace s61 : a84.eval (.tmp 61) = .bool false := ((p84.ne rfl).trans ((p83.ne rfl).trans ((p82.ne rfl).trans ((p81.ne rfl).trans ((p80.ne rfl).trans (p79.ne rfl)))))).trans s61
          replace s8 : a84.eval (.tmp 8) = .int .i64 ((i : Nat) : Int) := ((p84.ne rfl).trans ((p83.ne rfl).trans ((p82.ne rfl).trans ((p81.ne rfl).trans ((p80.ne rfl).trans (p79.ne rfl)))))).trans s8
          replace s69 : a84.eval (.tmp 69) = .bool false := ((p84.ne rfl).trans ((p83.ne rfl).trans ((p82.ne rfl).trans ((p81.ne rfl).trans ((p80.ne rfl).trans (p79.ne rfl)))))).trans s69
          replace s114 : a84.eval (.tmp 114) = .bool false := ((p84.ne rfl).trans ((p83.ne rfl).trans ((p82.ne rfl).trans ((p81.ne rfl).trans ((p80.ne rfl).trans (p79.ne rfl)))))).trans s114
          refine hK88 _ _ ?_
          clear hK88
          by_cases hc89 : (((atN bs (k + 3)) % 5 : Nat) : Int) = 0
          · replace s120 := s120.trans (congrArg Value.bool (decide_eq_true hc89))
            replace s120 : a84.eval (.tmp 120) = .bool true := s120
            refine c_true s120 ?_
            refine wp_seq_k fun K90 hK90 => ?_
            refine wp_region_lit ?_
            refine q_val rfl rfl ?_
            refine g_loadB rfl s7 Try.isAgg50 Try.sizeOf50 rfl h_q26 ?_
            intro a85 p85
            have s122 : a85.eval (.tmp 122) = .agg #[.int .i64 room, .slice A24 ys.length c24, .slice B24 es.length d24] := p85.at hs (by decide)
            replace hs := p85.st hs
            refine q_val rfl rfl ?_
            refine g_call rfl rfl Try.call37 (arr2 s122 rfl) ?_
            refine (takeOne_g hG2 (by omega) rfl (own_cap o_zy).1 (by have h9 := (own_cap o_zy).2; unfold maxLen at h9; omega) (Rd.of_own o_zy) (own_nil o_zy) rfl (own_nil o_dy) (Rd.of_own o_dy)).mono ?_
            rintro e w92 ⟨A91, c91, B91, d91, G91, e91, rfl, o_zt, o_dt, o_gt, hm91, hb91⟩
            refine ⟨_, rfl, ?_⟩
            have m_zt_dt := own_ne_type o_zt o_dt (by decide)
            have m_dt_zt := ne_row_symm m_zt_dt
            have m_zt_gt := hm91
            have m_gt_zt := ne_row_symm m_zt_gt
            have m_dt_gt := own_ne_type o_dt o_gt (by decide)
            have m_gt_dt := ne_row_symm m_dt_gt
            have d_zt_q6 := own_ne_box o_zt (lt_of_block h_q6)
            have d_zt_q19 := own_ne_box o_zt (lt_of_block h_q19)
            have d_zt_q26 := own_ne_box o_zt (lt_of_block h_q26)
            have m_z_zt := own_ne_row o_z o_zt (Nat.le_refl _)
            have m_zt_z := ne_row_symm m_z_zt
            have m_d_zt := own_ne_row o_d o_zt (Nat.le_refl _)
            have m_zt_d := ne_row_symm m_d_zt
            have m_zy_zt := own_ne_row o_zy o_zt (Nat.le_refl _)
            have m_zt_zy := ne_row_symm m_zy_zt
            have m_dy_zt := own_ne_row o_dy o_zt (Nat.le_refl _)
            have m_zt_dy := ne_row_symm m_dy_zt
            have g_zt : ∀ b, (A91 : Option Addr).map (·.block) = some b → w.heap.size ≤ b := fun b h => Nat.le_trans hB.size (own_row o_zt b h).1
            replace o_zt := own_base (base := w.heap.size) o_zt hB.size
            have d_dt_q6 := own_ne_box o_dt (lt_of_block h_q6)
            have d_dt_q19 := own_ne_box o_dt (lt_of_block h_q19)
            have d_dt_q26 := own_ne_box o_dt (lt_of_block h_q26)
            have m_z_dt := own_ne_row o_z o_dt (Nat.le_refl _)
            have m_dt_z := ne_row_symm m_z_dt
            have m_d_dt := own_ne_row o_d o_dt (Nat.le_refl _)
            have m_dt_d := ne_row_symm m_d_dt
            have m_zy_dt := own_ne_row o_zy o_dt (Nat.le_refl _)
            have m_dt_zy := ne_row_symm m_zy_dt
            have m_dy_dt := own_ne_row o_dy o_dt (Nat.le_refl _)
            have m_dt_dy := ne_row_symm m_dy_dt
            have g_dt : ∀ b, (B91 : Option Addr).map (·.block) = some b → w.heap.size ≤ b := fun b h => Nat.le_trans hB.size (own_row o_dt b h).1
            replace o_dt := own_base (base := w.heap.size) o_dt hB.size
            have d_gt_q6 := own_ne_box o_gt (lt_of_block h_q6)
            have d_gt_q19 := own_ne_box o_gt (lt_of_block h_q19)
            have d_gt_q26 := own_ne_box o_gt (lt_of_block h_q26)
            have m_z_gt := own_ne_row o_z o_gt (Nat.le_refl _)
            have m_gt_z := ne_row_symm m_z_gt
            have m_d_gt := own_ne_row o_d o_gt (Nat.le_refl _)
            have m_gt_d := ne_row_symm m_d_gt
            have m_zy_gt := own_ne_row o_zy o_gt (Nat.le_refl _)
            have m_gt_zy := ne_row_symm m_zy_gt
            have m_dy_gt := own_ne_row o_dy o_gt (Nat.le_refl _)
            have m_gt_dy := ne_row_symm m_dy_gt
            have g_gt : ∀ b, (G91 : Option Addr).map (·.block) = some b → w.heap.size ≤ b := fun b h => Nat.le_trans hB.size (own_row o_gt b h).1
            replace o_gt := own_base (base := w.heap.size) o_gt hB.size
            replace h_q6 := keep_below h_q6 hb91
            replace h_q19 := keep_below h_q19 hb91
            replace h_q26 := keep_below h_q26 hb91
            replace o_z := own_below o_z hb91
            replace o_d := own_below o_d hb91
            replace o_zy := own_below o_zy hb91
            replace o_dy := own_below o_dy hb91
            replace hB := hB.trans (hb91.mono hB.size)
            clear hb91
            intro a86 p86
            have s123 : a86.eval (.tmp 123) = .tuple #[.agg #[.int .i64 room, .slice A91 (ys.length - 1) c91, .slice B91 es.length d91], .slice G91 ((ys.take 1).length) e91] := p86.at hs (by decide)
            replace hs := p86.st hs
            refine q_val rfl rfl ?_
            refine g_move rfl s123 ?_
            intro a87 p87
            have s121 : a87.eval (.tmp 121) = .tuple #[.agg #[.int .i64 room, .slice A91 (ys.length - 1) c91, .slice B91 es.length d91], .slice G91 ((ys.take 1).length) e91] := p87.at hs (by decide)
            replace hs := p87.st hs
            refine q_val rfl rfl ?_
            refine g_extract rfl s121 rfl ?_
            intro a88 p88
            have s124 : a88.eval (.tmp 124) = .agg #[.int .i64 room, .slice A91 (ys.length - 1) c91, .slice B91 es.length d91] := p88.at hs (by decide)
            replace hs := p88.st hs
            refine q_val rfl rfl ?_
            refine g_extract rfl ((p88.ne rfl).trans s121) rfl ?_
            intro a89 p89
            have s125 : a89.eval (.tmp 125) = .slice G91 ((ys.take 1).length) e91 := p89.at hs (by decide)
            replace hs := p89.st hs
            refine q_val rfl rfl ?_
            refine g_alloc rfl Try.zeroValue50 rfl ?_
            intro q93 w94 N_q93
            have n_q6_q93 := N_q93.ne ⟨lt_of_block h_q6⟩
            have n_q93_q6 := n_q6_q93.symm
            have n_q19_q93 := N_q93.ne ⟨lt_of_block h_q19⟩
            have n_q93_q19 := n_q19_q93.symm
            have n_q26_q93 := N_q93.ne ⟨lt_of_block h_q26⟩
            have n_q93_q26 := n_q26_q93.symm
            have d_z_q93 := own_ne_new o_z N_q93
            have d_d_q93 := own_ne_new o_d N_q93
            have d_zy_q93 := own_ne_new o_zy N_q93
            have d_dy_q93 := own_ne_new o_dy N_q93
            have d_zt_q93 := own_ne_new o_zt N_q93
            have d_dt_q93 := own_ne_new o_dt N_q93
            have d_gt_q93 := own_ne_new o_gt N_q93
            have g_q93 : GeB w.heap.size q93 := ⟨Nat.le_trans hB.size N_q93.lo⟩
            replace h_q6 := keep_below h_q6 N_q93.below
            replace h_q19 := keep_below h_q19 N_q93.below
            replace h_q26 := keep_below h_q26 N_q93.below
            replace o_z := own_below o_z N_q93.below
            replace o_d := own_below o_d N_q93.below
            replace o_zy := own_below o_zy N_q93.below
            replace o_dy := own_below o_dy N_q93.below
            replace o_zt := own_below o_zt N_q93.below
            replace o_dt := own_below o_dt N_q93.below
            replace o_gt := own_below o_gt N_q93.below
            replace hB := below_new hB hB.size N_q93
            have h_q93 := N_q93.here
            clear N_q93
            intro a90 p90
            have s10 : a90.eval (.tmp 10) = .pointer (some ⟨q93, 0, none⟩) := p90.at hs (by decide)
            replace hs := p90.st hs
            refine q_eff rfl rfl ?_
            refine g_storeB rfl s10 (((p90.ne rfl).trans (p89.ne rfl)).trans s124) Try.sizeOf50 rfl rfl h_q93 rfl ?_
            intro w95 W_w95
            replace h_q6 := keep_wrote h_q6 W_w95 n_q93_q6
            replace h_q19 := keep_wrote h_q19 W_w95 n_q93_q19
            replace h_q26 := keep_wrote h_q26 W_w95 n_q93_q26
            replace h_q93 := W_w95.here
            replace o_z := own_wrote o_z W_w95 d_z_q93
            replace o_d := own_wrote o_d W_w95 d_d_q93
            replace o_zy := own_wrote o_zy W_w95 d_zy_q93
            replace o_dy := own_wrote o_dy W_w95 d_dy_q93
            replace o_zt := own_wrote o_zt W_w95 d_zt_q93
            replace o_dt := own_wrote o_dt W_w95 d_dt_q93
            replace o_gt := own_wrote o_gt W_w95 d_gt_q93
            replace hB := below_wrote hB hB.size W_w95 g_q93.le
            clear W_w95
            refine q_val rfl rfl ?_
            refine g_assign rfl ((p90.ne rfl).trans s125) ?_
            intro a91 p91
            have s11 : a91.eval (.tmp 11) = .slice G91 ((ys.take 1).length) e91 := p91.at hs (by decide)
            replace hs := p91.st hs
            refine wpList_nil ?_
            replace s0 : a91.eval (.tmp 0) = .slice A n c := ((p91.ne rfl).trans ((p90.ne rfl).trans ((p89.ne rfl).trans ((p88.ne rfl).trans ((p87.ne rfl).trans ((p86.ne rfl).trans (p85.ne rfl))))))).trans s0
            replace s2 : a91.eval (.tmp 2) = .bool false := ((p91.ne rfl).trans ((p90.ne rfl).trans ((p89.ne rfl).trans ((p88.ne rfl).trans ((p87.ne rfl).trans ((p86.ne rfl).trans (p85.ne rfl))))))).trans s2
            replace s3 : a91.eval (.tmp 3) = .pointer (some ⟨q6, 0, none⟩) := ((p91.ne rfl).trans ((p90.ne rfl).trans ((p89.ne rfl).trans ((p88.ne rfl).trans ((p87.ne rfl).trans ((p86.ne rfl).trans (p85.ne rfl))))))).trans s3
            replace s4 : a91.eval (.tmp 4) = .int .i64 ((k : Nat) : Int) := ((p91.ne rfl).trans ((p90.ne rfl).trans ((p89.ne rfl).trans ((p88.ne rfl).trans ((p87.ne rfl).trans ((p86.ne rfl).trans (p85.ne rfl))))))).trans s4
            replace s19 : a91.eval (.tmp 19) = .bool true := ((p91.ne rfl).trans ((p90.ne rfl).trans ((p89.ne rfl).trans ((p88.ne rfl).trans ((p87.ne rfl).trans ((p86.ne rfl).trans (p85.ne rfl))))))).trans s19
            replace s5 : a91.eval (.tmp 5) = .pointer (some ⟨q19, 0, none⟩) := ((p91.ne rfl).trans ((p90.ne rfl).trans ((p89.ne rfl).trans ((p88.ne rfl).trans ((p87.ne rfl).trans ((p86.ne rfl).trans (p85.ne rfl))))))).trans s5
            replace s6 : a91.eval (.tmp 6) = .int .i64 (6 + (((x.f3).length : Nat) : Int)) := ((p91.ne rfl).trans ((p90.ne rfl).trans ((p89.ne rfl).trans ((p88.ne rfl).trans ((p87.ne rfl).trans ((p86.ne rfl).trans (p85.ne rfl))))))).trans s6
            replace s7 : a91.eval (.tmp 7) = .pointer (some ⟨q26, 0, none⟩) := ((p91.ne rfl).trans ((p90.ne rfl).trans ((p89.ne rfl).trans ((p88.ne rfl).trans ((p87.ne rfl).trans ((p86.ne rfl).trans (p85.ne rfl))))))).trans s7
            replace s61 : a91.eval (.tmp 61) = .bool false := ((p91.ne rfl).trans ((p90.ne rfl).trans ((p89.ne rfl).trans ((p88.ne rfl).trans ((p87.ne rfl).trans ((p86.ne rfl).trans (p85.ne rfl))))))).trans s61
            replace s8 : a91.eval (.tmp 8) = .int .i64 ((i : Nat) : Int) := ((p91.ne rfl).trans ((p90.ne rfl).trans ((p89.ne rfl).trans ((p88.ne rfl).trans ((p87.ne rfl).trans ((p86.ne rfl).trans (p85.ne rfl))))))).trans s8
            replace s69 : a91.eval (.tmp 69) = .bool false := ((p91.ne rfl).trans ((p90.ne rfl).trans ((p89.ne rfl).trans ((p88.ne rfl).trans ((p87.ne rfl).trans ((p86.ne rfl).trans (p85.ne rfl))))))).trans s69
            replace s114 : a91.eval (.tmp 114) = .bool false := ((p91.ne rfl).trans ((p90.ne rfl).trans ((p89.ne rfl).trans ((p88.ne rfl).trans ((p87.ne rfl).trans ((p86.ne rfl).trans (p85.ne rfl))))))).trans s114
            replace s120 : a91.eval (.tmp 120) = .bool true := ((p91.ne rfl).trans ((p90.ne rfl).trans ((p89.ne rfl).trans ((p88.ne rfl).trans ((p87.ne rfl).trans ((p86.ne rfl).trans (p85.ne rfl))))))).trans s120
            replace s10 : a91.eval (.tmp 10) = .pointer (some ⟨q93, 0, none⟩) := (p91.ne rfl).trans s10
            refine hK90 _ _ ?_
            clear hK90
            refine wp_seq_k fun K96 hK96 => ?_
            by_cases hc97 : 0 < (((ys.take 1).length : Nat) : Int)
            · have hy0 : 0 < ys.length := by have h8 := hc97; rw [List.length_take] at h8; omega
              have hy1 : 0 < (ys.take 1).length := by rw [List.length_take]; omega
              obtain ⟨b98, o99, hA100, hl_hc101, hc101⟩ := Rd.get cRecord_len (Rd.of_own o_gt) rfl (i := 0) (by omega)
              obtain ⟨b102, o103, hA104, hl_hc105, hc105⟩ := Rd.get cRecord_len (Rd.of_own o_zy) rfl (i := 0) (by omega)
              refine wp_drawn (n := 152) [] [] [] (fun k_ v_ _wx => match k_ with | 0 => v_ = .slice G91 ((ys.take 1).length) e91 | 1 => v_ = .int .i64 (((ys.take 1).length : Nat) : Int) | 2 => v_ = .bool true | 3 => v_ = .bool true | 4 => v_ = .pointer (some ⟨q93, 1, none⟩) | 5 => v_ = .slice A91 (ys.length - 1) c91 | 6 => v_ = .int .i64 ((ys.length - 1 : Nat) : Int) | 7 => v_ = .pointer (some ⟨q26, 1, none⟩) | 8 => v_ = .slice A24 ys.length c24 | 9 => v_ = .int .i64 ((ys.length : Nat) : Int) | 10 => v_ = .int .i64 (((ys.length : Nat) : Int) - 1) | 11 => v_ = .bool false | 12 => v_ = .bool false | 13 => v_ = .slice G91 ((ys.take 1).length) e91 | 14 => v_ = .pointer (some ⟨b98, o99 + 0 * 4, none⟩) | 15 => v_ = .agg #[.int .i64 ((ys.take 1)[0].f0), .int .i64 ((ys.take 1)[0].f1), .int .i64 ((ys.take 1)[0].f2), .string ⟨((ys.take 1)[0].f3).toArray⟩] | 16 => v_ = .pointer (some ⟨q26, 1, none⟩) | 17 => v_ = .slice A24 ys.length c24 | 18 => v_ = .pointer (some ⟨b102, o103 + 0 * 4, none⟩) | 19 => v_ = .agg #[.int .i64 (ys[0].f0), .int .i64 (ys[0].f1), .int .i64 (ys[0].f2), .string ⟨(ys[0].f3).toArray⟩] | 20 => v_ = .bool false | 21 => v_ = .bool false | 22 => v_ = .bool false | _ => True) (by kernel_rfl) (by kernel_rfl) (by kernel_rfl) (by kernel_rfl) hs.size ?_ ?_ ?_
              · intro i v wa wb hb hr
                rcases i with _ | _ | _ | _ | _ | _ | _ | _ | _ | _ | _ | _ | _ | _ | _ | _ | _ | _ | _ | _ | _ | _ | _ | i
                · exact hr
                · exact hr
                · exact hr
                · exact hr
                · exact hr
                · exact hr
                · exact hr
                · exact hr
                · exact hr
                · exact hr
                · exact hr
                · exact hr
                · exact hr
                · exact hr
                · exact hr
                · exact hr
                · exact hr
                · exact hr
                · exact hr
                · exact hr
                · exact hr
                · exact hr
                · exact hr
                · trivial
              · refine d_step rfl rfl ?_ (d_step rfl rfl ?_ (d_step rfl rfl ?_ (d_step rfl rfl ?_ (d_take rfl 3 true 129 rfl rfl rfl (fun v w h => h) ?_ (d_take rfl 3 true 129 rfl rfl rfl (fun v w h => h) ?_ (d_take rfl 3 true 129 rfl rfl rfl (fun v w h => h) ?_ (d_take rfl 3 true 129 rfl rfl rfl (fun v w h => h) ?_ (d_take rfl 3 true 129 rfl rfl rfl (fun v w h => h) ?_ (d_take rfl 3 true 129 rfl rfl rfl (fun v w h => h) ?_ (d_take rfl 3 true 129 rfl rfl rfl (fun v w h => h) ?_ (d_take rfl 3 true 129 rfl rfl rfl (fun v w h => h) ?_ (d_take rfl 3 true 129 rfl rfl rfl (fun v w h => h) ?_ (d_take rfl 12 false 138 rfl rfl rfl (fun v w h => h) ?_ (d_take rfl 12 false 138 rfl rfl rfl (fun v w h => h) ?_ (d_take rfl 12 false 138 rfl rfl rfl (fun v w h => h) ?_ (d_take rfl 12 false 138 rfl rfl rfl (fun v w h => h) ?_ (d_take rfl 12 false 138 rfl rfl rfl (fun v w h => h) ?_ (d_take rfl 12 false 138 rfl rfl rfl (fun v w h => h) ?_ (d_take rfl 12 false 138 rfl rfl rfl (fun v w h => h) ?_ (d_take rfl 12 false 138 rfl rfl rfl (fun v w h => h) ?_ (d_take rfl 3 true 129 rfl rfl rfl (fun v w h => h) ?_ (d_step rfl rfl ?_ (d_nil)))))))))))))))))))))))
                · intro xv_ wx ρ hρ hwx hd K hK
                  have e11 : ρ (.tmp 11) = .slice G91 ((ys.take 1).length) e91 := (hρ.inn 11 rfl).trans s11
                  refine g_move rfl e11 ?_
                  exact hK _ _ (Below.refl _ _) rfl
                · intro xv_ wx ρ hρ hwx hd K hK
                  obtain r0 : xv_ 0 = .slice G91 ((ys.take 1).length) e91 := hd 0 rfl
                  have e126 : ρ (.tmp 126) = .slice G91 ((ys.take 1).length) e91 := (hρ.out 0 126 rfl (by rw [hs.size]; decide) rfl).trans r0
                  refine g_len (e := _) rfl Try.underlying47 e126 ?_
                  exact hK _ _ (Below.refl _ _) rfl
                · intro xv_ wx ρ hρ hwx hd K hK
                  obtain r1 : xv_ 1 = .int .i64 (((ys.take 1).length : Nat) : Int) := hd 1 rfl
                  have e127 : ρ (.tmp 127) = .int .i64 (((ys.take 1).length : Nat) : Int) := (hρ.out 1 127 rfl (by rw [hs.size]; decide) rfl).trans r1
                  refine g_gtr rfl e127 ((hρ.cst _)) ?_
                  exact hK _ _ (Below.refl _ _) (congrArg Value.bool (decide_eq_true hc97))
                · intro xv_ wx ρ hρ hwx hd K hK
                  obtain r2 : xv_ 2 = .bool true := hd 2 rfl
                  have e128 : ρ (.tmp 128) = .bool true := (hρ.out 2 128 rfl (by rw [hs.size]; decide) rfl).trans r2
                  refine g_move rfl e128 ?_
                  exact hK _ _ (Below.refl _ _) rfl
                · intro xv_ wx ρ hρ hwx hd K hK
                  have e10 : ρ (.tmp 10) = .pointer (some ⟨q93, 0, none⟩) := (hρ.inn 10 rfl).trans s10
                  refine g_field (r := 1) rfl e10 Try.underlying50 rfl (fun w => Try.sizeOf47 w) rfl rfl ?_
                  exact hK _ _ (Below.refl _ _) rfl
                · intro xv_ wx ρ hρ hwx hd K hK
                  obtain r4 : xv_ 4 = .pointer (some ⟨q93, 1, none⟩) := hd 4 rfl
                  have e130 : ρ (.tmp 130) = .pointer (some ⟨q93, 1, none⟩) := (hρ.out 4 130 rfl (by rw [hs.size]; decide) rfl).trans r4
                  have h_q93 := keep_below h_q93 hwx
                  refine g_load rfl e130 Try.isAgg47 (box_cell h_q93 rfl) ?_
                  exact hK _ _ (Below.refl _ _) rfl
                · intro xv_ wx ρ hρ hwx hd K hK
                  obtain r5 : xv_ 5 = .slice A91 (ys.length - 1) c91 := hd 5 rfl
                  have e131 : ρ (.tmp 131) = .slice A91 (ys.length - 1) c91 := (hρ.out 5 131 rfl (by rw [hs.size]; decide) rfl).trans r5
                  refine g_len (e := _) rfl Try.underlying47 e131 ?_
                  exact hK _ _ (Below.refl _ _) rfl
                · intro xv_ wx ρ hρ hwx hd K hK
                  have e7 : ρ (.tmp 7) = .pointer (some ⟨q26, 0, none⟩) := (hρ.inn 7 rfl).trans s7
                  refine g_field (r := 1) rfl e7 Try.underlying50 rfl (fun w => Try.sizeOf47 w) rfl rfl ?_
                  exact hK _ _ (Below.refl _ _) rfl
                · intro xv_ wx ρ hρ hwx hd K hK
                  obtain r7 : xv_ 7 = .pointer (some ⟨q26, 1, none⟩) := hd 7 rfl
                  have e133 : ρ (.tmp 133) = .pointer (some ⟨q26, 1, none⟩) := (hρ.out 7 133 rfl (by rw [hs.size]; decide) rfl).trans r7
                  have h_q26 := keep_below h_q26 hwx
                  refine g_load rfl e133 Try.isAgg47 (box_cell h_q26 rfl) ?_
                  exact hK _ _ (Below.refl _ _) rfl
                · intro xv_ wx ρ hρ hwx hd K hK
                  obtain r8 : xv_ 8 = .slice A24 ys.length c24 := hd 8 rfl
                  have e134 : ρ (.tmp 134) = .slice A24 ys.length c24 := (hρ.out 8 134 rfl (by rw [hs.size]; decide) rfl).trans r8
                  refine g_len (e := _) rfl Try.underlying47 e134 ?_
                  exact hK _ _ (Below.refl _ _) rfl
                · intro xv_ wx ρ hρ hwx hd K hK
                  obtain r9 : xv_ 9 = .int .i64 ((ys.length : Nat) : Int) := hd 9 rfl
                  have e135 : ρ (.tmp 135) = .int .i64 ((ys.length : Nat) : Int) := (hρ.out 9 135 rfl (by rw [hs.size]; decide) rfl).trans r9
                  refine g_sub (r := ((ys.length : Nat) : Int) - 1) rfl e135 ((hρ.cst _)) (by omega) (by omega) ?_
                  exact hK _ _ (Below.refl _ _) rfl
                · intro xv_ wx ρ hρ hwx hd K hK
                  obtain r6 : xv_ 6 = .int .i64 ((ys.length - 1 : Nat) : Int) := hd 6 rfl
                  have e132 : ρ (.tmp 132) = .int .i64 ((ys.length - 1 : Nat) : Int) := (hρ.out 6 132 rfl (by rw [hs.size]; decide) rfl).trans r6
                  obtain r10 : xv_ 10 = .int .i64 (((ys.length : Nat) : Int) - 1) := hd 10 rfl
                  have e136 : ρ (.tmp 136) = .int .i64 (((ys.length : Nat) : Int) - 1) := (hρ.out 10 136 rfl (by rw [hs.size]; decide) rfl).trans r10
                  refine g_neq rfl e132 e136 ?_
                  exact hK _ _ (Below.refl _ _) (congrArg (fun b => Value.bool (!b)) (decide_eq_true (by omega)))
                · intro xv_ wx ρ hρ hwx hd K hK
                  obtain r11 : xv_ 11 = .bool false := hd 11 rfl
                  have e137 : ρ (.tmp 137) = .bool false := (hρ.out 11 137 rfl (by rw [hs.size]; decide) rfl).trans r11
                  refine g_move rfl e137 ?_
                  exact hK _ _ (Below.refl _ _) rfl
                · intro xv_ wx ρ hρ hwx hd K hK
                  have e11 : ρ (.tmp 11) = .slice G91 ((ys.take 1).length) e91 := (hρ.inn 11 rfl).trans s11
                  refine g_move rfl e11 ?_
                  exact hK _ _ (Below.refl _ _) rfl
                · intro xv_ wx ρ hρ hwx hd K hK
                  obtain r13 : xv_ 13 = .slice G91 ((ys.take 1).length) e91 := hd 13 rfl
                  have e139 : ρ (.tmp 139) = .slice G91 ((ys.take 1).length) e91 := (hρ.out 13 139 rfl (by rw [hs.size]; decide) rfl).trans r13
                  refine g_index (r := o99 + 0 * 4) (k := 0) rfl (e139.trans (slice_at hA100)) ((hρ.cst _)) Try.underlying47 (fun w => Try.sizeOf26 w) (by omega) rfl ?_
                  exact hK _ _ (Below.refl _ _) rfl
                · intro xv_ wx ρ hρ hwx hd K hK
                  obtain r14 : xv_ 14 = .pointer (some ⟨b98, o99 + 0 * 4, none⟩) := hd 14 rfl
                  have e140 : ρ (.tmp 140) = .pointer (some ⟨b98, o99 + 0 * 4, none⟩) := (hρ.out 14 140 rfl (by rw [hs.size]; decide) rfl).trans r14
                  have hc101 := elem_below hc101 hwx hl_hc101
                  refine g_loadA (l := cRecord (ys.take 1)[0]) rfl e140 Try.isAgg26 Try.sizeOf26 rfl (fun j u hu => by rw [Nat.add_assoc]; exact hc101 j u (by have := (List.getElem?_eq_some_iff.1 hu).1; exact this) hu) ?_
                  exact hK _ _ (Below.refl _ _) rfl
                · intro xv_ wx ρ hρ hwx hd K hK
                  have e7 : ρ (.tmp 7) = .pointer (some ⟨q26, 0, none⟩) := (hρ.inn 7 rfl).trans s7
                  refine g_field (r := 1) rfl e7 Try.underlying50 rfl (fun w => Try.sizeOf47 w) rfl rfl ?_
                  exact hK _ _ (Below.refl _ _) rfl
                · intro xv_ wx ρ hρ hwx hd K hK
                  obtain r16 : xv_ 16 = .pointer (some ⟨q26, 1, none⟩) := hd 16 rfl
                  have e142 : ρ (.tmp 142) = .pointer (some ⟨q26, 1, none⟩) := (hρ.out 16 142 rfl (by rw [hs.size]; decide) rfl).trans r16
                  have h_q26 := keep_below h_q26 hwx
                  refine g_load rfl e142 Try.isAgg47 (box_cell h_q26 rfl) ?_
                  exact hK _ _ (Below.refl _ _) rfl
                · intro xv_ wx ρ hρ hwx hd K hK
                  obtain r17 : xv_ 17 = .slice A24 ys.length c24 := hd 17 rfl
                  have e143 : ρ (.tmp 143) = .slice A24 ys.length c24 := (hρ.out 17 143 rfl (by rw [hs.size]; decide) rfl).trans r17
                  refine g_index (r := o103 + 0 * 4) (k := 0) rfl (e143.trans (slice_at hA104)) ((hρ.cst _)) Try.underlying47 (fun w => Try.sizeOf26 w) (by omega) rfl ?_
                  exact hK _ _ (Below.refl _ _) rfl
                · intro xv_ wx ρ hρ hwx hd K hK
                  obtain r18 : xv_ 18 = .pointer (some ⟨b102, o103 + 0 * 4, none⟩) := hd 18 rfl
                  have e144 : ρ (.tmp 144) = .pointer (some ⟨b102, o103 + 0 * 4, none⟩) := (hρ.out 18 144 rfl (by rw [hs.size]; decide) rfl).trans r18
                  have hc105 := elem_below hc105 hwx hl_hc105
                  refine g_loadA (l := cRecord ys[0]) rfl e144 Try.isAgg26 Try.sizeOf26 rfl (fun j u hu => by rw [Nat.add_assoc]; exact hc105 j u (by have := (List.getElem?_eq_some_iff.1 hu).1; exact this) hu) ?_
                  exact hK _ _ (Below.refl _ _) rfl
                · intro xv_ wx ρ hρ hwx hd K hK
                  obtain r15 : xv_ 15 = .agg #[.int .i64 ((ys.take 1)[0].f0), .int .i64 ((ys.take 1)[0].f1), .int .i64 ((ys.take 1)[0].f2), .string ⟨((ys.take 1)[0].f3).toArray⟩] := hd 15 rfl
                  have e141 : ρ (.tmp 141) = .agg #[.int .i64 ((ys.take 1)[0].f0), .int .i64 ((ys.take 1)[0].f1), .int .i64 ((ys.take 1)[0].f2), .string ⟨((ys.take 1)[0].f3).toArray⟩] := (hρ.out 15 141 rfl (by rw [hs.size]; decide) rfl).trans r15
                  obtain r19 : xv_ 19 = .agg #[.int .i64 (ys[0].f0), .int .i64 (ys[0].f1), .int .i64 (ys[0].f2), .string ⟨(ys[0].f3).toArray⟩] := hd 19 rfl
                  have e145 : ρ (.tmp 145) = .agg #[.int .i64 (ys[0].f0), .int .i64 (ys[0].f1), .int .i64 (ys[0].f2), .string ⟨(ys[0].f3).toArray⟩] := (hρ.out 19 145 rfl (by rw [hs.size]; decide) rfl).trans r19
                  refine g_neqR rfl e141 e145 (by simp only [List.getElem_take]) ?_
                  exact hK _ _ (Below.refl _ _) rfl
                · intro xv_ wx ρ hρ hwx hd K hK
                  obtain r12 : xv_ 12 = .bool false := hd 12 rfl
                  have e138 : ρ (.tmp 138) = .bool false := (hρ.out 12 138 rfl (by rw [hs.size]; decide) rfl).trans r12
                  obtain r20 : xv_ 20 = .bool false := hd 20 rfl
                  have e146 : ρ (.tmp 146) = .bool false := (hρ.out 20 146 rfl (by rw [hs.size]; decide) rfl).trans r20
                  refine g_pick_f rfl e138 e146 ?_
                  exact hK _ _ (Below.refl _ _) rfl
                · intro xv_ wx ρ hρ hwx hd K hK
                  obtain r3 : xv_ 3 = .bool true := hd 3 rfl
                  have e129 : ρ (.tmp 129) = .bool true := (hρ.out 3 129 rfl (by rw [hs.size]; decide) rfl).trans r3
                  obtain r21 : xv_ 21 = .bool false := hd 21 rfl
                  have e147 : ρ (.tmp 147) = .bool false := (hρ.out 21 147 rfl (by rw [hs.size]; decide) rfl).trans r21
                  refine g_pick_t rfl e129 e147 ?_
                  exact hK _ _ (Below.refl _ _) rfl
              · intro x0_ w106 hb_w106 hr0
                obtain r0 : x0_ 0 = .slice G91 ((ys.take 1).length) e91 := hr0 0 (by decide) rfl rfl
                obtain r1 : x0_ 1 = .int .i64 (((ys.take 1).length : Nat) : Int) := hr0 1 (by decide) rfl rfl
                obtain r2 : x0_ 2 = .bool true := hr0 2 (by decide) rfl rfl
                obtain r3 : x0_ 3 = .bool true := hr0 3 (by decide) rfl rfl
                obtain r4 : x0_ 4 = .pointer (some ⟨q93, 1, none⟩) := hr0 4 (by decide) rfl rfl
                obtain r5 : x0_ 5 = .slice A91 (ys.length - 1) c91 := hr0 5 (by decide) rfl rfl
                obtain r6 : x0_ 6 = .int .i64 ((ys.length - 1 : Nat) : Int) := hr0 6 (by decide) rfl rfl
                obtain r7 : x0_ 7 = .pointer (some ⟨q26, 1, none⟩) := hr0 7 (by decide) rfl rfl
                obtain r8 : x0_ 8 = .slice A24 ys.length c24 := hr0 8 (by decide) rfl rfl
                obtain r9 : x0_ 9 = .int .i64 ((ys.length : Nat) : Int) := hr0 9 (by decide) rfl rfl
                obtain r10 : x0_ 10 = .int .i64 (((ys.length : Nat) : Int) - 1) := hr0 10 (by decide) rfl rfl
                obtain r11 : x0_ 11 = .bool false := hr0 11 (by decide) rfl rfl
                obtain r12 : x0_ 12 = .bool false := hr0 12 (by decide) rfl rfl
                obtain r13 : x0_ 13 = .slice G91 ((ys.take 1).length) e91 := hr0 13 (by decide) rfl rfl
                obtain r14 : x0_ 14 = .pointer (some ⟨b98, o99 + 0 * 4, none⟩) := hr0 14 (by decide) rfl rfl
                obtain r15 : x0_ 15 = .agg #[.int .i64 ((ys.take 1)[0].f0), .int .i64 ((ys.take 1)[0].f1), .int .i64 ((ys.take 1)[0].f2), .string ⟨((ys.take 1)[0].f3).toArray⟩] := hr0 15 (by decide) rfl rfl
                obtain r16 : x0_ 16 = .pointer (some ⟨q26, 1, none⟩) := hr0 16 (by decide) rfl rfl
                obtain r17 : x0_ 17 = .slice A24 ys.length c24 := hr0 17 (by decide) rfl rfl
                obtain r18 : x0_ 18 = .pointer (some ⟨b102, o103 + 0 * 4, none⟩) := hr0 18 (by decide) rfl rfl
                obtain r19 : x0_ 19 = .agg #[.int .i64 (ys[0].f0), .int .i64 (ys[0].f1), .int .i64 (ys[0].f2), .string ⟨(ys[0].f3).toArray⟩] := hr0 19 (by decide) rfl rfl
                obtain r20 : x0_ 20 = .bool false := hr0 20 (by decide) rfl rfl
                obtain r21 : x0_ 21 = .bool false := hr0 21 (by decide) rfl rfl
                obtain r22 : x0_ 22 = .bool false := hr0 22 (by decide) rfl rfl
                clear hr0
                replace h_q6 := keep_below h_q6 hb_w106
                replace h_q19 := keep_below h_q19 hb_w106
                replace h_q26 := keep_below h_q26 hb_w106
                replace h_q93 := keep_below h_q93 hb_w106
                replace o_z := own_below o_z hb_w106
                replace o_d := own_below o_d hb_w106
                replace o_zy := own_below o_zy hb_w106
                replace o_dy := own_below o_dy hb_w106
                replace o_zt := own_below o_zt hb_w106
                replace o_dt := own_below o_dt hb_w106
                replace o_gt := own_below o_gt hb_w106
                replace hB := hB.trans (hb_w106.mono hB.size)
                clear hb_w106
                intro xv_ a92 hρ hsz hdf qx_ ql_ qk_ qlk_
                replace s0 : a92.eval (.tmp 0) = .slice A n c := (hρ.inn 0 rfl).trans s0
                replace s2 : a92.eval (.tmp 2) = .bool false := (hρ.inn 2 rfl).trans s2
                replace s3 : a92.eval (.tmp 3) = .pointer (some ⟨q6, 0, none⟩) := (hρ.inn 3 rfl).trans s3
                replace s4 : a92.eval (.tmp 4) = .int .i64 ((k : Nat) : Int) := (hρ.inn 4 rfl).trans s4
                replace s5 : a92.eval (.tmp 5) = .pointer (some ⟨q19, 0, none⟩) := (hρ.inn 5 rfl).trans s5
                replace s6 : a92.eval (.tmp 6) = .int .i64 (6 + (((x.f3).length : Nat) : Int)) := (hρ.inn 6 rfl).trans s6
                replace s7 : a92.eval (.tmp 7) = .pointer (some ⟨q26, 0, none⟩) := (hρ.inn 7 rfl).trans s7
                replace s8 : a92.eval (.tmp 8) = .int .i64 ((i : Nat) : Int) := (hρ.inn 8 rfl).trans s8
                replace s10 : a92.eval (.tmp 10) = .pointer (some ⟨q93, 0, none⟩) := (hρ.inn 10 rfl).trans s10
                replace s11 : a92.eval (.tmp 11) = .slice G91 ((ys.take 1).length) e91 := (hρ.inn 11 rfl).trans s11
                replace s19 : a92.eval (.tmp 19) = .bool true := (hρ.inn 19 rfl).trans s19
                replace s61 : a92.eval (.tmp 61) = .bool false := (hρ.inn 61 rfl).trans s61
                replace s69 : a92.eval (.tmp 69) = .bool false := (hρ.inn 69 rfl).trans s69
                replace s114 : a92.eval (.tmp 114) = .bool false := (hρ.inn 114 rfl).trans s114
                replace s120 : a92.eval (.tmp 120) = .bool true := (hρ.inn 120 rfl).trans s120
                have s148 : a92.eval (.tmp 148) = .bool false := (hρ.out 22 148 rfl (by rw [hs.size]; decide)).trans ((qx_ 22 (by decide) rfl rfl).trans r22)
                replace hs : St 152 a92 := ⟨hsz.trans hs.size, hdf.trans hs.nodef⟩
                clear hρ hsz hdf qx_ ql_ qk_ qlk_
                refine hK96 _ _ ?_
                clear hK96
                refine c_false s148 ?_
                refine wp_skip ?_
                exact jK85 _ _ ⟨hs, s0, s2, s3, s4, s5, s6, s7, s8, s19, s61, s69, s114, hB, h_q6, h_q19, h_q26, o_z, o_d, o_zy, o_dy⟩
            · refine wp_drawn (n := 152) [] [] [] (fun k_ v_ _wx => match k_ with | 0 => v_ = .slice G91 ((ys.take 1).length) e91 | 1 => v_ = .int .i64 (((ys.take 1).length : Nat) : Int) | 2 => v_ = .bool false | 3 => v_ = .bool false | 12 => v_ = undef | 22 => v_ = .bool false | _ => True) (by kernel_rfl) (by kernel_rfl) (by kernel_rfl) (by kernel_rfl) hs.size ?_ ?_ ?_
              · intro i v wa wb hb hr
                rcases i with _ | _ | _ | _ | _ | _ | _ | _ | _ | _ | _ | _ | _ | _ | _ | _ | _ | _ | _ | _ | _ | _ | _ | i
                · exact hr
                · exact hr
                · exact hr
                · exact hr
                · trivial
                · trivial
                · trivial
                · trivial
                · trivial
                · trivial
                · trivial
                · trivial
                · exact hr
                · trivial
                · trivial
                · trivial
                · trivial
                · trivial
                · trivial
                · trivial
                · trivial
                · trivial
                · exact hr
                · trivial
              · refine d_step rfl rfl ?_ (d_step rfl rfl ?_ (d_step rfl rfl ?_ (d_step rfl rfl ?_ (d_skip 3 true 129 rfl rfl rfl (fun v w h => Or.inl h) (fun w => trivial) (d_skip 3 true 129 rfl rfl rfl (fun v w h => Or.inl h) (fun w => trivial) (d_skip 3 true 129 rfl rfl rfl (fun v w h => Or.inl h) (fun w => trivial) (d_skip 3 true 129 rfl rfl rfl (fun v w h => Or.inl h) (fun w => trivial) (d_skip 3 true 129 rfl rfl rfl (fun v w h => Or.inl h) (fun w => trivial) (d_skip 3 true 129 rfl rfl rfl (fun v w h => Or.inl h) (fun w => trivial) (d_skip 3 true 129 rfl rfl rfl (fun v w h => Or.inl h) (fun w => trivial) (d_skip 3 true 129 rfl rfl rfl (fun v w h => Or.inl h) (fun w => trivial) (d_skip 3 true 129 rfl rfl rfl (fun v w h => Or.inl h) (fun w => rfl) (d_skip 12 false 138 rfl rfl rfl (fun v w h => Or.inr h) (fun w => trivial) (d_skip 12 false 138 rfl rfl rfl (fun v w h => Or.inr h) (fun w => trivial) (d_skip 12 false 138 rfl rfl rfl (fun v w h => Or.inr h) (fun w => trivial) (d_skip 12 false 138 rfl rfl rfl (fun v w h => Or.inr h) (fun w => trivial) (d_skip 12 false 138 rfl rfl rfl (fun v w h => Or.inr h) (fun w => trivial) (d_skip 12 false 138 rfl rfl rfl (fun v w h => Or.inr h) (fun w => trivial) (d_skip 12 false 138 rfl rfl rfl (fun v w h => Or.inr h) (fun w => trivial) (d_skip 12 false 138 rfl rfl rfl (fun v w h => Or.inr h) (fun w => trivial) (d_skip 3 true 129 rfl rfl rfl (fun v w h => Or.inl h) (fun w => trivial) (d_step rfl rfl ?_ (d_nil)))))))))))))))))))))))
                · intro xv_ wx ρ hρ hwx hd K hK
                  have e11 : ρ (.tmp 11) = .slice G91 ((ys.take 1).length) e91 := (hρ.inn 11 rfl).trans s11
                  refine g_move rfl e11 ?_
                  exact hK _ _ (Below.refl _ _) rfl
                · intro xv_ wx ρ hρ hwx hd K hK
                  obtain r0 : xv_ 0 = .slice G91 ((ys.take 1).length) e91 := hd 0 rfl
                  have e126 : ρ (.tmp 126) = .slice G91 ((ys.take 1).length) e91 := (hρ.out 0 126 rfl (by rw [hs.size]; decide) rfl).trans r0
                  refine g_len (e := _) rfl Try.underlying47 e126 ?_
                  exact hK _ _ (Below.refl _ _) rfl
                · intro xv_ wx ρ hρ hwx hd K hK
                  obtain r1 : xv_ 1 = .int .i64 (((ys.take 1).length : Nat) : Int) := hd 1 rfl
                  have e127 : ρ (.tmp 127) = .int .i64 (((ys.take 1).length : Nat) : Int) := (hρ.out 1 127 rfl (by rw [hs.size]; decide) rfl).trans r1
                  refine g_gtr rfl e127 ((hρ.cst _)) ?_
                  exact hK _ _ (Below.refl _ _) (congrArg Value.bool (decide_eq_false hc97))
                · intro xv_ wx ρ hρ hwx hd K hK
                  obtain r2 : xv_ 2 = .bool false := hd 2 rfl
                  have e128 : ρ (.tmp 128) = .bool false := (hρ.out 2 128 rfl (by rw [hs.size]; decide) rfl).trans r2
                  refine g_move rfl e128 ?_
                  exact hK _ _ (Below.refl _ _) rfl
                · intro xv_ wx ρ hρ hwx hd K hK
                  obtain r3 : xv_ 3 = .bool false := hd 3 rfl
                  have e129 : ρ (.tmp 129) = .bool false := (hρ.out 3 129 rfl (by rw [hs.size]; decide) rfl).trans r3
                  refine g_pick_f rfl e129 ((hρ.cst _)) ?_
                  exact hK _ _ (Below.refl _ _) rfl
              · intro x0_ w107 hb_w107 hr0
                obtain r0 : x0_ 0 = .slice G91 ((ys.take 1).length) e91 := hr0 0 (by decide) rfl rfl
                obtain r1 : x0_ 1 = .int .i64 (((ys.take 1).length : Nat) : Int) := hr0 1 (by decide) rfl rfl
                obtain r2 : x0_ 2 = .bool false := hr0 2 (by decide) rfl rfl
                obtain r3 : x0_ 3 = .bool false := hr0 3 (by decide) rfl rfl
                obtain r22 : x0_ 22 = .bool false := hr0 22 (by decide) rfl rfl
                clear hr0
                replace h_q6 := keep_below h_q6 hb_w107
                replace h_q19 := keep_below h_q19 hb_w107
                replace h_q26 := keep_below h_q26 hb_w107
                replace h_q93 := keep_below h_q93 hb_w107
                replace o_z := own_below o_z hb_w107
                replace o_d := own_below o_d hb_w107
                replace o_zy := own_below o_zy hb_w107
                replace o_dy := own_below o_dy hb_w107
                replace o_zt := own_below o_zt hb_w107
                replace o_dt := own_below o_dt hb_w107
                replace o_gt := own_below o_gt hb_w107
                replace hB := hB.trans (hb_w107.mono hB.size)
                clear hb_w107
                intro xv_ a92 hρ hsz hdf qx_ ql_ qk_ qlk_
                replace s0 : a92.eval (.tmp 0) = .slice A n c := (hρ.inn 0 rfl).trans s0
                replace s2 : a92.eval (.tmp 2) = .bool false := (hρ.inn 2 rfl).trans s2
                replace s3 : a92.eval (.tmp 3) = .pointer (some ⟨q6, 0, none⟩) := (hρ.inn 3 rfl).trans s3
                replace s4 : a92.eval (.tmp 4) = .int .i64 ((k : Nat) : Int) := (hρ.inn 4 rfl).trans s4
                replace s5 : a92.eval (.tmp 5) = .pointer (some ⟨q19, 0, none⟩) := (hρ.inn 5 rfl).trans s5
                replace s6 : a92.eval (.tmp 6) = .int .i64 (6 + (((x.f3).length : Nat) : Int)) := (hρ.inn 6 rfl).trans s6
                replace s7 : a92.eval (.tmp 7) = .pointer (some ⟨q26, 0, none⟩) := (hρ.inn 7 rfl).trans s7
                replace s8 : a92.eval (.tmp 8) = .int .i64 ((i : Nat) : Int) := (hρ.inn 8 rfl).trans s8
                replace s10 : a92.eval (.tmp 10) = .pointer (some ⟨q93, 0, none⟩) := (hρ.inn 10 rfl).trans s10
                replace s11 : a92.eval (.tmp 11) = .slice G91 ((ys.take 1).length) e91 := (hρ.inn 11 rfl).trans s11
                replace s19 : a92.eval (.tmp 19) = .bool true := (hρ.inn 19 rfl).trans s19
                replace s61 : a92.eval (.tmp 61) = .bool false := (hρ.inn 61 rfl).trans s61
                replace s69 : a92.eval (.tmp 69) = .bool false := (hρ.inn 69 rfl).trans s69
                replace s114 : a92.eval (.tmp 114) = .bool false := (hρ.inn 114 rfl).trans s114
                replace s120 : a92.eval (.tmp 120) = .bool true := (hρ.inn 120 rfl).trans s120
                have s148 : a92.eval (.tmp 148) = .bool false := (hρ.out 22 148 rfl (by rw [hs.size]; decide)).trans ((qx_ 22 (by decide) rfl rfl).trans r22)
                replace hs : St 152 a92 := ⟨hsz.trans hs.size, hdf.trans hs.nodef⟩
                clear hρ hsz hdf qx_ ql_ qk_ qlk_
                refine hK96 _ _ ?_
                clear hK96
                refine c_false s148 ?_
                refine wp_skip ?_
                exact jK85 _ _ ⟨hs, s0, s2, s3, s4, s5, s6, s7, s8, s19, s61, s69, s114, hB, h_q6, h_q19, h_q26, o_z, o_d, o_zy, o_dy⟩
          · replace s120 := s120.trans (congrArg Value.bool (decide_eq_false hc89))
            replace s120 : a84.eval (.tmp 120) = .bool false := s120
            refine c_false s120 ?_
            refine wp_skip ?_
            exact jK85 _ _ ⟨hs, s0, s2, s3, s4, s5, s6, s7, s8, s19, s61, s69, s114, hB, h_q6, h_q19, h_q26, o_z, o_d, o_zy, o_dy⟩
        · replace s105 := s105.trans (congrArg Value.bool (decide_eq_false hneed))
          replace s105 : a69.eval (.tmp 105) = .bool false := s105
          replace s106 := s106.trans (congrArg Value.bool (decide_eq_false hneed))
          replace s106 : a70.eval (.tmp 106) = .bool false := s106
          refine q_skip rfl rfl s106 rfl ?_
          intro a71 p71
          have s107 : a71.eval (.tmp 107) = undef := p71.at hs (by decide)
          replace hs := p71.st hs
          refine q_skip rfl rfl ((p71.ne rfl).trans s106) rfl ?_
          intro a72 p72
          have s108 : a72.eval (.tmp 108) = undef := p72.at hs (by decide)
          replace hs := p72.st hs
          refine q_skip rfl rfl (((p72.ne rfl).trans (p71.ne rfl)).trans s106) rfl ?_
          intro a73 p73
          have s109 : a73.eval (.tmp 109) = undef := p73.at hs (by decide)
          replace hs := p73.st hs
          refine q_skip rfl rfl (((p73.ne rfl).trans ((p72.ne rfl).trans (p71.ne rfl))).trans s106) rfl ?_
          intro a74 p74
          have s110 : a74.eval (.tmp 110) = undef := p74.at hs (by decide)
          replace hs := p74.st hs
          refine q_skip rfl rfl (((p74.ne rfl).trans ((p73.ne rfl).trans ((p72.ne rfl).trans (p71.ne rfl)))).trans s106) rfl ?_
          intro a75 p75
          have s111 : a75.eval (.tmp 111) = undef := p75.at hs (by decide)
          replace hs := p75.st hs
          refine q_skip rfl rfl (((p75.ne rfl).trans ((p74.ne rfl).trans ((p73.ne rfl).trans ((p72.ne rfl).trans (p71.ne rfl))))).trans s106) rfl ?_
          intro a76 p76
          have s112 : a76.eval (.tmp 112) = undef := p76.at hs (by decide)
          replace hs := p76.st hs
          refine q_skip rfl rfl (((p76.ne rfl).trans ((p75.ne rfl).trans ((p74.ne rfl).trans ((p73.ne rfl).trans ((p72.ne rfl).trans (p71.ne rfl)))))).trans s106) rfl ?_
          intro a77 p77
          have s113 : a77.eval (.tmp 113) = undef := p77.at hs (by decide)
          replace hs := p77.st hs
          refine q_val rfl rfl ?_
          refine g_pick_f rfl (((p77.ne rfl).trans ((p76.ne rfl).trans ((p75.ne rfl).trans ((p74.ne rfl).trans ((p73.ne rfl).trans ((p72.ne rfl).trans (p71.ne rfl))))))).trans s106) rfl ?_
          intro a78 p78
          have s114 : a78.eval (.tmp 114) = .bool false := p78.at hs (by decide)
          replace hs := p78.st hs
          refine wpList_nil ?_
          replace s0 : a78.eval (.tmp 0) = .slice A n c := ((p78.ne rfl).trans ((p77.ne rfl).trans ((p76.ne rfl).trans ((p75.ne rfl).trans ((p74.ne rfl).trans ((p73.ne rfl).trans ((p72.ne rfl).trans ((p71.ne rfl).trans ((p70.ne rfl).trans ((p69.ne rfl).trans ((p68.ne rfl).trans ((p67.ne rfl).trans (p66.ne rfl))))))))))))).trans s0
          replace s2 : a78.eval (.tmp 2) = .bool false := ((p78.ne rfl).trans ((p77.ne rfl).trans ((p76.ne rfl).trans ((p75.ne rfl).trans ((p74.ne rfl).trans ((p73.ne rfl).trans ((p72.ne rfl).trans ((p71.ne rfl).trans ((p70.ne rfl).trans ((p69.ne rfl).trans ((p68.ne rfl).trans ((p67.ne rfl).trans (p66.ne rfl))))))))))))).trans s2
          replace s3 : a78.eval (.tmp 3) = .pointer (some ⟨q6, 0, none⟩) := ((p78.ne rfl).trans ((p77.ne rfl).trans ((p76.ne rfl).trans ((p75.ne rfl).trans ((p74.ne rfl).trans ((p73.ne rfl).trans ((p72.ne rfl).trans ((p71.ne rfl).trans ((p70.ne rfl).trans ((p69.ne rfl).trans ((p68.ne rfl).trans ((p67.ne rfl).trans (p66.ne rfl))))))))))))).trans s3
          replace s4 : a78.eval (.tmp 4) = .int .i64 ((k : Nat) : Int) := ((p78.ne rfl).trans ((p77.ne rfl).trans ((p76.ne rfl).trans ((p75.ne rfl).trans ((p74.ne rfl).trans ((p73.ne rfl).trans ((p72.ne rfl).trans ((p71.ne rfl).trans ((p70.ne rfl).trans ((p69.ne rfl).trans ((p68.ne rfl).trans ((p67.ne rfl).trans (p66.ne rfl))))))))))))).trans s4
          replace s19 : a78.eval (.tmp 19) = .bool true := ((p78.ne rfl).trans ((p77.ne rfl).trans ((p76.ne rfl).trans ((p75.ne rfl).trans ((p74.ne rfl).trans ((p73.ne rfl).trans ((p72.ne rfl).trans ((p71.ne rfl).trans ((p70.ne rfl).trans ((p69.ne rfl).trans ((p68.ne rfl).trans ((p67.ne rfl).trans (p66.ne rfl))))))))))))).trans s19
          replace s5 : a78.eval (.tmp 5) = .pointer (some ⟨q19, 0, none⟩) := ((p78.ne rfl).trans ((p77.ne rfl).trans ((p76.ne rfl).trans ((p75.ne rfl).trans ((p74.ne rfl).trans ((p73.ne rfl).trans ((p72.ne rfl).trans ((p71.ne rfl).trans ((p70.ne rfl).trans ((p69.ne rfl).trans ((p68.ne rfl).trans ((p67.ne rfl).trans (p66.ne rfl))))))))))))).trans s5
          replace s6 : a78.eval (.tmp 6) = .int .i64 (6 + (((x.f3).length : Nat) : Int)) := ((p78.ne rfl).trans ((p77.ne rfl).trans ((p76.ne rfl).trans ((p75.ne rfl).trans ((p74.ne rfl).trans ((p73.ne rfl).trans ((p72.ne rfl).trans ((p71.ne rfl).trans ((p70.ne rfl).trans ((p69.ne rfl).trans ((p68.ne rfl).trans ((p67.ne rfl).trans (p66.ne rfl))))))))))))).trans s6
          replace s7 : a78.eval (.tmp 7) = .pointer (some ⟨q26, 0, none⟩) := ((p78.ne rfl).trans ((p77.ne rfl).trans ((p76.ne rfl).trans ((p75.ne rfl).trans ((p74.ne rfl).trans ((p73.ne rfl).trans ((p72.ne rfl).trans ((p71.ne rfl).trans ((p70.ne rfl).trans ((p69.ne rfl).trans ((p68.ne rfl).trans ((p67.ne rfl).trans (p66.ne rfl))))))))))))).trans s7
          replace s61 : a78.eval (.tmp 61) = .bool false := ((p78.ne rfl).trans ((p77.ne rfl).trans ((p76.ne rfl).trans ((p75.ne rfl).trans ((p74.ne rfl).trans ((p73.ne rfl).trans ((p72.ne rfl).trans ((p71.ne rfl).trans ((p70.ne rfl).trans ((p69.ne rfl).trans ((p68.ne rfl).trans ((p67.ne rfl).trans (p66.ne rfl))))))))))))).trans s61
          replace s8 : a78.eval (.tmp 8) = .int .i64 ((i : Nat) : Int) := ((p78.ne rfl).trans ((p77.ne rfl).trans ((p76.ne rfl).trans ((p75.ne rfl).trans ((p74.ne rfl).trans ((p73.ne rfl).trans ((p72.ne rfl).trans ((p71.ne rfl).trans ((p70.ne rfl).trans ((p69.ne rfl).trans ((p68.ne rfl).trans ((p67.ne rfl).trans (p66.ne rfl))))))))))))).trans s8
          replace s69 : a78.eval (.tmp 69) = .bool false := ((p78.ne rfl).trans ((p77.ne rfl).trans ((p76.ne rfl).trans ((p75.ne rfl).trans ((p74.ne rfl).trans ((p73.ne rfl).trans ((p72.ne rfl).trans ((p71.ne rfl).trans ((p70.ne rfl).trans ((p69.ne rfl).trans ((p68.ne rfl).trans ((p67.ne rfl).trans (p66.ne rfl))))))))))))).trans s69
          refine hK82 _ _ ?_
          clear hK82
          refine c_false s114 ?_
          refine wp_skip ?_
          refine hK81 _ _ ?_
          clear hK81
          refine wp_seq_k fun K108 hK108 => ?_
          have jK108 : ∀ (a : Act) (wr : World), (St 152 a) ∧ (a.eval (.tmp 0) = .slice A n c) ∧ (a.eval (.tmp 2) = .bool false) ∧ (a.eval (.tmp 3) = .pointer (some ⟨q6, 0, none⟩)) ∧ (a.eval (.tmp 4) = .int .i64 ((k : Nat) : Int)) ∧ (a.eval (.tmp 5) = .pointer (some ⟨q19, 0, none⟩)) ∧ (a.eval (.tmp 6) = .int .i64 (6 + (((x.f3).length : Nat) : Int))) ∧ (a.eval (.tmp 7) = .pointer (some ⟨q26, 0, none⟩)) ∧ (a.eval (.tmp 8) = .int .i64 ((i : Nat) : Int)) ∧ (a.eval (.tmp 19) = .bool true) ∧ (a.eval (.tmp 61) = .bool false) ∧ (a.eval (.tmp 69) = .bool false) ∧ (a.eval (.tmp 114) = .bool false) ∧ (Below w.heap.size w wr) ∧ (wr.heap[q6]? = some (.cells #[.int .i64 room, .slice Z zs.length cz, .slice D ds.length cd] 50 (0, 0))) ∧ (wr.heap[q19]? = some (.cells #[.int .i64 x.f0, .int .i64 x.f1, .int .i64 x.f2, .string ⟨(x.f3).toArray⟩] 26 (0, 0))) ∧ (wr.heap[q26]? = some (.cells #[.int .i64 room, .slice A24 ys.length c24, .slice B24 es.length d24] 50 (0, 0))) ∧ (wr.ownsRow w.heap.size 26 4 (.slice Z zs.length cz) zs.length (zs.flatMap cRecord)) ∧ (wr.ownsRow w.heap.size 3 1 (.slice D ds.length cd) ds.length (ds.flatMap cI)) ∧ (wr.ownsRow w.heap.size 26 4 (.slice A24 ys.length c24) ys.length (ys.flatMap cRecord)) ∧ (wr.ownsRow w.heap.size 3 1 (.slice B24 es.length d24) es.length (es.flatMap cI)) → K108 a wr := by
            rintro a79 w109 ⟨hs, s0, s2, s3, s4, s5, s6, s7, s8, s19, s61, s69, s114, hB, h_q6, h_q19, h_q26, o_z, o_d, o_zy, o_dy⟩
            refine hK108 _ _ ?_
            clear hK108
            refine wp_region_lit ?_
            refine q_val rfl rfl ?_
            refine g_loadB rfl s7 Try.isAgg50 Try.sizeOf50 rfl h_q26 ?_
            intro a80 p80
            have s149 : a80.eval (.tmp 149) = .agg #[.int .i64 room, .slice A24 ys.length c24, .slice B24 es.length d24] := p80.at hs (by decide)
            replace hs := p80.st hs
            refine q_eff rfl rfl ?_
            refine g_storeB rfl ((p80.ne rfl).trans s3) s149 Try.sizeOf50 rfl rfl h_q6 rfl ?_
            intro w110 W_w110
            replace h_q6 := W_w110.here
            replace h_q19 := keep_wrote h_q19 W_w110 n_q6_q19
            replace h_q26 := keep_wrote h_q26 W_w110 n_q6_q26
            replace o_z := own_wrote o_z W_w110 d_z_q6
            replace o_d := own_wrote o_d W_w110 d_d_q6
            replace o_zy := own_wrote o_zy W_w110 d_zy_q6
            replace o_dy := own_wrote o_dy W_w110 d_dy_q6
            replace hB := below_wrote hB hB.size W_w110 g_q6.le
            clear W_w110
            refine wpList_nil ?_
            replace s0 : a80.eval (.tmp 0) = .slice A n c := (p80.ne rfl).trans s0
            replace s2 : a80.eval (.tmp 2) = .bool false := (p80.ne rfl).trans s2
            replace s3 : a80.eval (.tmp 3) = .pointer (some ⟨q6, 0, none⟩) := (p80.ne rfl).trans s3
            replace s4 : a80.eval (.tmp 4) = .int .i64 ((k : Nat) : Int) := (p80.ne rfl).trans s4
            replace s19 : a80.eval (.tmp 19) = .bool true := (p80.ne rfl).trans s19
            replace s5 : a80.eval (.tmp 5) = .pointer (some ⟨q19, 0, none⟩) := (p80.ne rfl).trans s5
            replace s6 : a80.eval (.tmp 6) = .int .i64 (6 + (((x.f3).length : Nat) : Int)) := (p80.ne rfl).trans s6
            replace s7 : a80.eval (.tmp 7) = .pointer (some ⟨q26, 0, none⟩) := (p80.ne rfl).trans s7
            replace s61 : a80.eval (.tmp 61) = .bool false := (p80.ne rfl).trans s61
            replace s8 : a80.eval (.tmp 8) = .int .i64 ((i : Nat) : Int) := (p80.ne rfl).trans s8
            replace s69 : a80.eval (.tmp 69) = .bool false := (p80.ne rfl).trans s69
            replace s114 : a80.eval (.tmp 114) = .bool false := (p80.ne rfl).trans s114
            refine hK17 _ _ ?_
            clear hK17
            refine wp_region_lit ?_
            refine q_val rfl rfl ?_
            refine g_move rfl s4 ?_
            intro a81 p81
            have s20 : a81.eval (.tmp 20) = .int .i64 ((k : Nat) : Int) := p81.at hs (by decide)
            replace hs := p81.st hs
            refine q_val rfl rfl ?_
            refine g_add (r := ((k + 1 : Nat) : Int)) rfl s20 rfl (by omega) (by omega) ?_
            intro a82 p82
            have s21 : a82.eval (.tmp 21) = .int .i64 ((k + 1 : Nat) : Int) := p82.at hs (by decide)
            replace hs := p82.st hs
            refine q_val rfl rfl ?_
            refine g_assign rfl s21 ?_
            intro a83 p83
            have s4 : a83.eval (.tmp 4) = .int .i64 ((k + 1 : Nat) : Int) := p83.at hs (by decide)
            replace hs := p83.st hs
            refine wpList_nil ?_
            replace s0 : a83.eval (.tmp 0) = .slice A n c := ((p83.ne rfl).trans ((p82.ne rfl).trans (p81.ne rfl))).trans s0
            replace s2 : a83.eval (.tmp 2) = .bool false := ((p83.ne rfl).trans ((p82.ne rfl).trans (p81.ne rfl))).trans s2
            replace s3 : a83.eval (.tmp 3) = .pointer (some ⟨q6, 0, none⟩) := ((p83.ne rfl).trans ((p82.ne rfl).trans (p81.ne rfl))).trans s3
            replace s19 : a83.eval (.tmp 19) = .bool true := ((p83.ne rfl).trans ((p82.ne rfl).trans (p81.ne rfl))).trans s19
            replace s5 : a83.eval (.tmp 5) = .pointer (some ⟨q19, 0, none⟩) := ((p83.ne rfl).trans ((p82.ne rfl).trans (p81.ne rfl))).trans s5
            replace s6 : a83.eval (.tmp 6) = .int .i64 (6 + (((x.f3).length : Nat) : Int)) := ((p83.ne rfl).trans ((p82.ne rfl).trans (p81.ne rfl))).trans s6
            replace s7 : a83.eval (.tmp 7) = .pointer (some ⟨q26, 0, none⟩) := ((p83.ne rfl).trans ((p82.ne rfl).trans (p81.ne rfl))).trans s7
            replace s61 : a83.eval (.tmp 61) = .bool false := ((p83.ne rfl).trans ((p82.ne rfl).trans (p81.ne rfl))).trans s61
            replace s8 : a83.eval (.tmp 8) = .int .i64 ((i : Nat) : Int) := ((p83.ne rfl).trans ((p82.ne rfl).trans (p81.ne rfl))).trans s8
            replace s69 : a83.eval (.tmp 69) = .bool false := ((p83.ne rfl).trans ((p82.ne rfl).trans (p81.ne rfl))).trans s69
            replace s114 : a83.eval (.tmp 114) = .bool false := ((p83.ne rfl).trans ((p82.ne rfl).trans (p81.ne rfl))).trans s114
            have o_z := o_zy
            have g_z := g_zy
            have d_z_q6 := d_zy_q6
            have m_d_z := m_dy_zy
            have m_z_d := m_zy_dy
            have o_d := o_dy
            have g_d := g_dy
            have d_d_q6 := d_dy_q6
            have m_z_d := m_zy_dy
            have m_d_z := m_dy_zy
            refine show _ ∧ _ from ⟨⟨k + 1, ys, es, _, _, _, _, hs, s0, s2, s3, s4, hB, h_q6, o_z, o_d, d_z_q6, m_d_z, g_z, d_d_q6, m_z_d, g_d, hG2, (by omega)⟩, ?_⟩
            show 20 - (intOf (a83.eval (.tmp 4))).toNat < 20 - (intOf (a10.eval (.tmp 4))).toNat
            rw [s4, mu13]
            simp only [intOf]
            omega
          clear hK108
          refine wp_seq_k fun K111 hK111 => ?_
          have hak3 := atN_le bs (k + 3)
          refine wp_region_lit ?_
          refine q_val rfl rfl ?_
          refine g_move rfl s0 ?_
          intro a79 p79
          have s115 : a79.eval (.tmp 115) = .slice A n c := p79.at hs (by decide)
          replace hs := p79.st hs
          refine q_val rfl rfl ?_
          refine g_move rfl ((p79.ne rfl).trans s4) ?_
          intro a80 p80
          have s116 : a80.eval (.tmp 116) = .int .i64 ((k : Nat) : Int) := p80.at hs (by decide)
          replace hs := p80.st hs
          refine q_val rfl rfl ?_
          refine g_add (r := ((k + 3 : Nat) : Int)) rfl s116 rfl (by omega) (by omega) ?_
          intro a81 p81
          have s117 : a81.eval (.tmp 117) = .int .i64 ((k + 3 : Nat) : Int) := p81.at hs (by decide)
          replace hs := p81.st hs
          refine q_val rfl rfl ?_
          refine g_call rfl rfl Try.call33 (arr2 (((p81.ne rfl).trans (p80.ne rfl)).trans s115) s117) ?_
          refine (at_nat hlen hnc hcm (hr_cc.below hB) (k + 3) (by omega)).mono ?_
          rintro e w' ⟨rfl, rfl⟩
          refine ⟨_, rfl, ?_⟩
          intro a82 p82
          have s118 : a82.eval (.tmp 118) = .int .i64 ((atN bs (k + 3) : Nat) : Int) := p82.at hs (by decide)
          replace hs := p82.st hs
          refine q_val rfl rfl ?_
          refine g_rem (N := atN bs (k + 3)) (M := 5) rfl s118 rfl (by omega) rfl (by decide) (by decide) ?_
          intro a83 p83
          have s119 : a83.eval (.tmp 119) = .int .i64 (((atN bs (k + 3)) % 5 : Nat) : Int) := p83.at hs (by decide)
          replace hs := p83.st hs
          refine q_val rfl rfl ?_
          refine g_eql rfl s119 rfl ?_
          intro a84 p84
          have s120 : a84.eval (.tmp 120) = .bool (decide ((((atN bs (k + 3)) % 5 : Nat) : Int) = 0)) := p84.at hs (by decide)
          replace hs := p84.st hs
          refine wpList_nil ?_
          replace s0 : a84.eval (.tmp 0) = .slice A n c := ((p84.ne rfl).trans ((p83.ne rfl).trans ((p82.ne rfl).trans ((p81.ne rfl).trans ((p80.ne rfl).trans (p79.ne rfl)))))).trans s0
          replace s2 : a84.eval (.tmp 2) = .bool false := ((p84.ne rfl).trans ((p83.ne rfl).trans ((p82.ne rfl).trans ((p81.ne rfl).trans ((p80.ne rfl).trans (p79.ne rfl)))))).trans s2
          replace s3 : a84.eval (.tmp 3) = .pointer (some ⟨q6, 0, none⟩) := ((p84.ne rfl).trans ((p83.ne rfl).trans ((p82.ne rfl).trans ((p81.ne rfl).trans ((p80.ne rfl).trans (p79.ne rfl)))))).trans s3
          replace s4 : a84.eval (.tmp 4) = .int .i64 ((k : Nat) : Int) := ((p84.ne rfl).trans ((p83.ne rfl).trans ((p82.ne rfl).trans ((p81.ne rfl).trans ((p80.ne rfl).trans (p79.ne rfl)))))).trans s4
          replace s19 : a84.eval (.tmp 19) = .bool true := ((p84.ne rfl).trans ((p83.ne rfl).trans ((p82.ne rfl).trans ((p81.ne rfl).trans ((p80.ne rfl).trans (p79.ne rfl)))))).trans s19
          replace s5 : a84.eval (.tmp 5) = .pointer (some ⟨q19, 0, none⟩) := ((p84.ne rfl).trans ((p83.ne rfl).trans ((p82.ne rfl).trans ((p81.ne rfl).trans ((p80.ne rfl).trans (p79.ne rfl)))))).trans s5
          replace s6 : a84.eval (.tmp 6) = .int .i64 (6 + (((x.f3).length : Nat) : Int)) := ((p84.ne rfl).trans ((p83.ne rfl).trans ((p82.ne rfl).trans ((p81.ne rfl).trans ((p80.ne rfl).trans (p79.ne rfl)))))).trans s6
          replace s7 : a84.eval (.tmp 7) = .pointer (some ⟨q26, 0, none⟩) := ((p84.ne rfl).trans ((p83.ne rfl).trans ((p82.ne rfl).trans ((p81.ne rfl).trans ((p80.ne rfl).trans (p79.ne rfl)))))).trans s7
          replace s61 : a84.eval (.tmp 61) = .bool false := ((p84.ne rfl).trans ((p83.ne rfl).trans ((p82.ne rfl).trans ((p81.ne rfl).trans ((p80.ne rfl).trans (p79.ne rfl)))))).trans s61
          replace s8 : a84.eval (.tmp 8) = .int .i64 ((i : Nat) : Int) := ((p84.ne rfl).trans ((p83.ne rfl).trans ((p82.ne rfl).trans ((p81.ne rfl).trans ((p80.ne rfl).trans (p79.ne rfl)))))).trans s8
          replace s69 : a84.eval (.tmp 69) = .bool false := ((p84.ne rfl).trans ((p83.ne rfl).trans ((p82.ne rfl).trans ((p81.ne rfl).trans ((p80.ne rfl).trans (p79.ne rfl)))))).trans s69
          replace s114 : a84.eval (.tmp 114) = .bool false := ((p84.ne rfl).trans ((p83.ne rfl).trans ((p82.ne rfl).trans ((p81.ne rfl).trans ((p80.ne rfl).trans (p79.ne rfl)))))).trans s114
          refine hK111 _ _ ?_
          clear hK111
          by_cases hc112 : (((atN bs (k + 3)) % 5 : Nat) : Int) = 0
          · replace s120 := s120.trans (congrArg Value.bool (decide_eq_true hc112))
            replace s120 : a84.eval (.tmp 120) = .bool true := s120
            refine c_true s120 ?_
            refine wp_seq_k fun K113 hK113 => ?_
            refine wp_region_lit ?_
            refine q_val rfl rfl ?_
            refine g_loadB rfl s7 Try.isAgg50 Try.sizeOf50 rfl h_q26 ?_
            intro a85 p85
            have s122 : a85.eval (.tmp 122) = .agg #[.int .i64 room, .slice A24 ys.length c24, .slice B24 es.length d24] := p85.at hs (by decide)
            replace hs := p85.st hs
            refine q_val rfl rfl ?_
            refine g_call rfl rfl Try.call37 (arr2 s122 rfl) ?_
            refine (takeOne_g hG2 (by omega) rfl (own_cap o_zy).1 (by have h9 := (own_cap o_zy).2; unfold maxLen at h9; omega) (Rd.of_own o_zy) (own_nil o_zy) rfl (own_nil o_dy) (Rd.of_own o_dy)).mono ?_
            rintro e w115 ⟨A114, c114, B114, d114, G114, e114, rfl, o_zt, o_dt, o_gt, hm114, hb114⟩
            refine ⟨_, rfl, ?_⟩
            have m_zt_dt := own_ne_type o_zt o_dt (by decide)
            have m_dt_zt := ne_row_symm m_zt_dt
            have m_zt_gt := hm114
            have m_gt_zt := ne_row_symm m_zt_gt
            have m_dt_gt := own_ne_type o_dt o_gt (by decide)
            have m_gt_dt := ne_row_symm m_dt_gt
            have d_zt_q6 := own_ne_box o_zt (lt_of_block h_q6)
            have d_zt_q19 := own_ne_box o_zt (lt_of_block h_q19)
            have d_zt_q26 := own_ne_box o_zt (lt_of_block h_q26)
            have m_z_zt := own_ne_row o_z o_zt (Nat.le_refl _)
            have m_zt_z := ne_row_symm m_z_zt
            have m_d_zt := own_ne_row o_d o_zt (Nat.le_refl _)
            have m_zt_d := ne_row_symm m_d_zt
            have m_zy_zt := own_ne_row o_zy o_zt (Nat.le_refl _)
            have m_zt_zy := ne_row_symm m_zy_zt
            have m_dy_zt := own_ne_row o_dy o_zt (Nat.le_refl _)
            have m_zt_dy := ne_row_symm m_dy_zt
            have g_zt : ∀ b, (A114 : Option Addr).map (·.block) = some b → w.heap.size ≤ b := fun b h => Nat.le_trans hB.size (own_row o_zt b h).1
            replace o_zt := own_base (base := w.heap.size) o_zt hB.size
            have d_dt_q6 := own_ne_box o_dt (lt_of_block h_q6)
            have d_dt_q19 := own_ne_box o_dt (lt_of_block h_q19)
            have d_dt_q26 := own_ne_box o_dt (lt_of_block h_q26)
            have m_z_dt := own_ne_row o_z o_dt (Nat.le_refl _)
            have m_dt_z := ne_row_symm m_z_dt
            have m_d_dt := own_ne_row o_d o_dt (Nat.le_refl _)
            have m_dt_d := ne_row_symm m_d_dt
            have m_zy_dt := own_ne_row o_zy o_dt (Nat.le_refl _)
            have m_dt_zy := ne_row_symm m_zy_dt
            have m_dy_dt := own_ne_row o_dy o_dt (Nat.le_refl _)
            have m_dt_dy := ne_row_symm m_dy_dt
            have g_dt : ∀ b, (B114 : Option Addr).map (·.block) = some b → w.heap.size ≤ b := fun b h => Nat.le_trans hB.size (own_row o_dt b h).1
            replace o_dt := own_base (base := w.heap.size) o_dt hB.size
            have d_gt_q6 := own_ne_box o_gt (lt_of_block h_q6)
            have d_gt_q19 := own_ne_box o_gt (lt_of_block h_q19)
            have d_gt_q26 := own_ne_box o_gt (lt_of_block h_q26)
            have m_z_gt := own_ne_row o_z o_gt (Nat.le_refl _)
            have m_gt_z := ne_row_symm m_z_gt
            have m_d_gt := own_ne_row o_d o_gt (Nat.le_refl _)
            have m_gt_d := ne_row_symm m_d_gt
            have m_zy_gt := own_ne_row o_zy o_gt (Nat.le_refl _)
            have m_gt_zy := ne_row_symm m_zy_gt
            have m_dy_gt := own_ne_row o_dy o_gt (Nat.le_refl _)
            have m_gt_dy := ne_row_symm m_dy_gt
            have g_gt : ∀ b, (G114 : Option Addr).map (·.block) = some b → w.heap.size ≤ b := fun b h => Nat.le_trans hB.size (own_row o_gt b h).1
            replace o_gt := own_base (base := w.heap.size) o_gt hB.size
            replace h_q6 := keep_below h_q6 hb114
            replace h_q19 := keep_below h_q19 hb114
            replace h_q26 := keep_below h_q26 hb114
            replace o_z := own_below o_z hb114
            replace o_d := own_below o_d hb114
            replace o_zy := own_below o_zy hb114
            replace o_dy := own_below o_dy hb114
            replace hB := hB.trans (hb114.mono hB.size)
            clear hb114
            intro a86 p86
            have s123 : a86.eval (.tmp 123) = .tuple #[.agg #[.int .i64 room, .slice A114 (ys.length - 1) c114, .slice B114 es.length d114], .slice G114 ((ys.take 1).length) e114] := p86.at hs (by decide)
            replace hs := p86.st hs
            refine q_val rfl rfl ?_
            refine g_move rfl s123 ?_
            intro a87 p87
            have s121 : a87.eval (.tmp 121) = .tuple #[.agg #[.int .i64 room, .slice A114 (ys.length - 1) c114, .slice B114 es.length d114], .slice G114 ((ys.take 1).length) e114] := p87.at hs (by decide)
            replace hs := p87.st hs
            refine q_val rfl rfl ?_
            refine g_extract rfl s121 rfl ?_
            intro a88 p88
            have s124 : a88.eval (.tmp 124) = .agg #[.int .i64 room, .slice A114 (ys.length - 1) c114, .slice B114 es.length d114] := p88.at hs (by decide)
            replace hs := p88.st hs
            refine q_val rfl rfl ?_
            refine g_extract rfl ((p88.ne rfl).trans s121) rfl ?_
            intro a89 p89
            have s125 : a89.eval (.tmp 125) = .slice G114 ((ys.take 1).length) e114 := p89.at hs (by decide)
            replace hs := p89.st hs
            refine q_val rfl rfl ?_
            refine g_alloc rfl Try.zeroValue50 rfl ?_
            intro q116 w117 N_q116
            have n_q6_q116 := N_q116.ne ⟨lt_of_block h_q6⟩
            have n_q116_q6 := n_q6_q116.symm
            have n_q19_q116 := N_q116.ne ⟨lt_of_block h_q19⟩
            have n_q116_q19 := n_q19_q116.symm
            have n_q26_q116 := N_q116.ne ⟨lt_of_block h_q26⟩
            have n_q116_q26 := n_q26_q116.symm
            have d_z_q116 := own_ne_new o_z N_q116
            have d_d_q116 := own_ne_new o_d N_q116
            have d_zy_q116 := own_ne_new o_zy N_q116
            have d_dy_q116 := own_ne_new o_dy N_q116
            have d_zt_q116 := own_ne_new o_zt N_q116
            have d_dt_q116 := own_ne_new o_dt N_q116
            have d_gt_q116 := own_ne_new o_gt N_q116
            have g_q116 : GeB w.heap.size q116 := ⟨Nat.le_trans hB.size N_q116.lo⟩
            replace h_q6 := keep_below h_q6 N_q116.below
            replace h_q19 := keep_below h_q19 N_q116.below
            replace h_q26 := keep_below h_q26 N_q116.below
            replace o_z := own_below o_z N_q116.below
            replace o_d := own_below o_d N_q116.below
            replace o_zy := own_below o_zy N_q116.below
            replace o_dy := own_below o_dy N_q116.below
            replace o_zt := own_below o_zt N_q116.below
            replace o_dt := own_below o_dt N_q116.below
            replace o_gt := own_below o_gt N_q116.below
            replace hB := below_new hB hB.size N_q116
            have h_q116 := N_q116.here
            clear N_q116
            intro a90 p90
            have s10 : a90.eval (.tmp 10) = .pointer (some ⟨q116, 0, none⟩) := p90.at hs (by decide)
            replace hs := p90.st hs
            refine q_eff rfl rfl ?_
            refine g_storeB rfl s10 (((p90.ne rfl).trans (p89.ne rfl)).trans s124) Try.sizeOf50 rfl rfl h_q116 rfl ?_
            intro w118 W_w118
            replace h_q6 := keep_wrote h_q6 W_w118 n_q116_q6
            replace h_q19 := keep_wrote h_q19 W_w118 n_q116_q19
            replace h_q26 := keep_wrote h_q26 W_w118 n_q116_q26
            replace h_q116 := W_w118.here
            replace o_z := own_wrote o_z W_w118 d_z_q116
            replace o_d := own_wrote o_d W_w118 d_d_q116
            replace o_zy := own_wrote o_zy W_w118 d_zy_q116
            replace o_dy := own_wrote o_dy W_w118 d_dy_q116
            replace o_zt := own_wrote o_zt W_w118 d_zt_q116
            replace o_dt := own_wrote o_dt W_w118 d_dt_q116
            replace o_gt := own_wrote o_gt W_w118 d_gt_q116
            replace hB := below_wrote hB hB.size W_w118 g_q116.le
            clear W_w118
            refine q_val rfl rfl ?_
            refine g_assign rfl ((p90.ne rfl).trans s125) ?_
            intro a91 p91
            have s11 : a91.eval (.tmp 11) = .slice G114 ((ys.take 1).length) e114 := p91.at hs (by decide)
            replace hs := p91.st hs
            refine wpList_nil ?_
            replace s0 : a91.eval (.tmp 0) = .slice A n c := ((p91.ne rfl).trans ((p90.ne rfl).trans ((p89.ne rfl).trans ((p88.ne rfl).trans ((p87.ne rfl).trans ((p86.ne rfl).trans (p85.ne rfl))))))).trans s0
            replace s2 : a91.eval (.tmp 2) = .bool false := ((p91.ne rfl).trans ((p90.ne rfl).trans ((p89.ne rfl).trans ((p88.ne rfl).trans ((p87.ne rfl).trans ((p86.ne rfl).trans (p85.ne rfl))))))).trans s2
            replace s3 : a91.eval (.tmp 3) = .pointer (some ⟨q6, 0, none⟩) := ((p91.ne rfl).trans ((p90.ne rfl).trans ((p89.ne rfl).trans ((p88.ne rfl).trans ((p87.ne rfl).trans ((p86.ne rfl).trans (p85.ne rfl))))))).trans s3
            replace s4 : a91.eval (.tmp 4) = .int .i64 ((k : Nat) : Int) := ((p91.ne rfl).trans ((p90.ne rfl).trans ((p89.ne rfl).trans ((p88.ne rfl).trans ((p87.ne rfl).trans ((p86.ne rfl).trans (p85.ne rfl))))))).trans s4
            replace s19 : a91.eval (.tmp 19) = .bool true := ((p91.ne rfl).trans ((p90.ne rfl).trans ((p89.ne rfl).trans ((p88.ne rfl).trans ((p87.ne rfl).trans ((p86.ne rfl).trans (p85.ne rfl))))))).trans s19
            replace s5 : a91.eval (.tmp 5) = .pointer (some ⟨q19, 0, none⟩) := ((p91.ne rfl).trans ((p90.ne rfl).trans ((p89.ne rfl).trans ((p88.ne rfl).trans ((p87.ne rfl).trans ((p86.ne rfl).trans (p85.ne rfl))))))).trans s5
            replace s6 : a91.eval (.tmp 6) = .int .i64 (6 + (((x.f3).length : Nat) : Int)) := ((p91.ne rfl).trans ((p90.ne rfl).trans ((p89.ne rfl).trans ((p88.ne rfl).trans ((p87.ne rfl).trans ((p86.ne rfl).trans (p85.ne rfl))))))).trans s6
            replace s7 : a91.eval (.tmp 7) = .pointer (some ⟨q26, 0, none⟩) := ((p91.ne rfl).trans ((p90.ne rfl).trans ((p89.ne rfl).trans ((p88.ne rfl).trans ((p87.ne rfl).trans ((p86.ne rfl).trans (p85.ne rfl))))))).trans s7
            replace s61 : a91.eval (.tmp 61) = .bool false := ((p91.ne rfl).trans ((p90.ne rfl).trans ((p89.ne rfl).trans ((p88.ne rfl).trans ((p87.ne rfl).trans ((p86.ne rfl).trans (p85.ne rfl))))))).trans s61
            replace s8 : a91.eval (.tmp 8) = .int .i64 ((i : Nat) : Int) := ((p91.ne rfl).trans ((p90.ne rfl).trans ((p89.ne rfl).trans ((p88.ne rfl).trans ((p87.ne rfl).trans ((p86.ne rfl).trans (p85.ne rfl))))))).trans s8
            replace s69 : a91.eval (.tmp 69) = .bool false := ((p91.ne rfl).trans ((p90.ne rfl).trans ((p89.ne rfl).trans ((p88.ne rfl).trans ((p87.ne rfl).trans ((p86.ne rfl).trans (p85.ne rfl))))))).trans s69
            replace s114 : a91.eval (.tmp 114) = .bool false := ((p91.ne rfl).trans ((p90.ne rfl).trans ((p89.ne rfl).trans ((p88.ne rfl).trans ((p87.ne rfl).trans ((p86.ne rfl).trans (p85.ne rfl))))))).trans s114
            replace s120 : a91.eval (.tmp 120) = .bool true := ((p91.ne rfl).trans ((p90.ne rfl).trans ((p89.ne rfl).trans ((p88.ne rfl).trans ((p87.ne rfl).trans ((p86.ne rfl).trans (p85.ne rfl))))))).trans s120
            replace s10 : a91.eval (.tmp 10) = .pointer (some ⟨q116, 0, none⟩) := (p91.ne rfl).trans s10
            refine hK113 _ _ ?_
            clear hK113
            refine wp_seq_k fun K119 hK119 => ?_
            by_cases hc120 : 0 < (((ys.take 1).length : Nat) : Int)
            · have hy0 : 0 < ys.length := by have h8 := hc120; rw [List.length_take] at h8; omega
              have hy1 : 0 < (ys.take 1).length := by rw [List.length_take]; omega
              obtain ⟨b121, o122, hA123, hl_hc124, hc124⟩ := Rd.get cRecord_len (Rd.of_own o_gt) rfl (i := 0) (by omega)
              obtain ⟨b125, o126, hA127, hl_hc128, hc128⟩ := Rd.get cRecord_len (Rd.of_own o_zy) rfl (i := 0) (by omega)
              refine wp_drawn (n := 152) [] [] [] (fun k_ v_ _wx => match k_ with | 0 => v_ = .slice G114 ((ys.take 1).length) e114 | 1 => v_ = .int .i64 (((ys.take 1).length : Nat) : Int) | 2 => v_ = .bool true | 3 => v_ = .bool true | 4 => v_ = .pointer (some ⟨q116, 1, none⟩) | 5 => v_ = .slice A114 (ys.length - 1) c114 | 6 => v_ = .int .i64 ((ys.length - 1 : Nat) : Int) | 7 => v_ = .pointer (some ⟨q26, 1, none⟩) | 8 => v_ = .slice A24 ys.length c24 | 9 => v_ = .int .i64 ((ys.length : Nat) : Int) | 10 => v_ = .int .i64 (((ys.length : Nat) : Int) - 1) | 11 => v_ = .bool false | 12 => v_ = .bool false | 13 => v_ = .slice G114 ((ys.take 1).length) e114 | 14 => v_ = .pointer (some ⟨b121, o122 + 0 * 4, none⟩) | 15 => v_ = .agg #[.int .i64 ((ys.take 1)[0].f0), .int .i64 ((ys.take 1)[0].f1), .int .i64 ((ys.take 1)[0].f2), .string ⟨((ys.take 1)[0].f3).toArray⟩] | 16 => v_ = .pointer (some ⟨q26, 1, none⟩) | 17 => v_ = .slice A24 ys.length c24 | 18 => v_ = .pointer (some ⟨b125, o126 + 0 * 4, none⟩) | 19 => v_ = .agg #[.int .i64 (ys[0].f0), .int .i64 (ys[0].f1), .int .i64 (ys[0].f2), .string ⟨(ys[0].f3).toArray⟩] | 20 => v_ = .bool false | 21 => v_ = .bool false | 22 => v_ = .bool false | _ => True) (by kernel_rfl) (by kernel_rfl) (by kernel_rfl) (by kernel_rfl) hs.size ?_ ?_ ?_
              · intro i v wa wb hb hr
                rcases i with _ | _ | _ | _ | _ | _ | _ | _ | _ | _ | _ | _ | _ | _ | _ | _ | _ | _ | _ | _ | _ | _ | _ | i
                · exact hr
                · exact hr
                · exact hr
                · exact hr
                · exact hr
                · exact hr
                · exact hr
                · exact hr
                · exact hr
                · exact hr
                · exact hr
                · exact hr
                · exact hr
                · exact hr
                · exact hr
                · exact hr
                · exact hr
                · exact hr
                · exact hr
                · exact hr
                · exact hr
                · exact hr
                · exact hr
                · trivial
              · refine d_step rfl rfl ?_ (d_step rfl rfl ?_ (d_step rfl rfl ?_ (d_step rfl rfl ?_ (d_take rfl 3 true 129 rfl rfl rfl (fun v w h => h) ?_ (d_take rfl 3 true 129 rfl rfl rfl (fun v w h => h) ?_ (d_take rfl 3 true 129 rfl rfl rfl (fun v w h => h) ?_ (d_take rfl 3 true 129 rfl rfl rfl (fun v w h => h) ?_ (d_take rfl 3 true 129 rfl rfl rfl (fun v w h => h) ?_ (d_take rfl 3 true 129 rfl rfl rfl (fun v w h => h) ?_ (d_take rfl 3 true 129 rfl rfl rfl (fun v w h => h) ?_ (d_take rfl 3 true 129 rfl rfl rfl (fun v w h => h) ?_ (d_take rfl 3 true 129 rfl rfl rfl (fun v w h => h) ?_ (d_take rfl 12 false 138 rfl rfl rfl (fun v w h => h) ?_ (d_take rfl 12 false 138 rfl rfl rfl (fun v w h => h) ?_ (d_take rfl 12 false 138 rfl rfl rfl (fun v w h => h) ?_ (d_take rfl 12 false 138 rfl rfl rfl (fun v w h => h) ?_ (d_take rfl 12 false 138 rfl rfl rfl (fun v w h => h) ?_ (d_take rfl 12 false 138 rfl rfl rfl (fun v w h => h) ?_ (d_take rfl 12 false 138 rfl rfl rfl (fun v w h => h) ?_ (d_take rfl 12 false 138 rfl rfl rfl (fun v w h => h) ?_ (d_take rfl 3 true 129 rfl rfl rfl (fun v w h => h) ?_ (d_step rfl rfl ?_ (d_nil)))))))))))))))))))))))
                · intro xv_ wx ρ hρ hwx hd K hK
                  have e11 : ρ (.tmp 11) = .slice G114 ((ys.take 1).length) e114 := (hρ.inn 11 rfl).trans s11
                  refine g_move rfl e11 ?_
                  exact hK _ _ (Below.refl _ _) rfl
                · intro xv_ wx ρ hρ hwx hd K hK
                  obtain r0 : xv_ 0 = .slice G114 ((ys.take 1).length) e114 := hd 0 rfl
                  have e126 : ρ (.tmp 126) = .slice G114 ((ys.take 1).length) e114 := (hρ.out 0 126 rfl (by rw [hs.size]; decide) rfl).trans r0
                  refine g_len (e := _) rfl Try.underlying47 e126 ?_
                  exact hK _ _ (Below.refl _ _) rfl
                · intro xv_ wx ρ hρ hwx hd K hK
                  obtain r1 : xv_ 1 = .int .i64 (((ys.take 1).length : Nat) : Int) := hd 1 rfl
                  have e127 : ρ (.tmp 127) = .int .i64 (((ys.take 1).length : Nat) : Int) := (hρ.out 1 127 rfl (by rw [hs.size]; decide) rfl).trans r1
                  refine g_gtr rfl e127 ((hρ.cst _)) ?_
                  exact hK _ _ (Below.refl _ _) (congrArg Value.bool (decide_eq_true hc120))
                · intro xv_ wx ρ hρ hwx hd K hK
                  obtain r2 : xv_ 2 = .bool true := hd 2 rfl
                  have e128 : ρ (.tmp 128) = .bool true := (hρ.out 2 128 rfl (by rw [hs.size]; decide) rfl).trans r2
                  refine g_move rfl e128 ?_
                  exact hK _ _ (Below.refl _ _) rfl
                · intro xv_ wx ρ hρ hwx hd K hK
                  have e10 : ρ (.tmp 10) = .pointer (some ⟨q116, 0, none⟩) := (hρ.inn 10 rfl).trans s10
                  refine g_field (r := 1) rfl e10 Try.underlying50 rfl (fun w => Try.sizeOf47 w) rfl rfl ?_
                  exact hK _ _ (Below.refl _ _) rfl
                · intro xv_ wx ρ hρ hwx hd K hK
                  obtain r4 : xv_ 4 = .pointer (some ⟨q116, 1, none⟩) := hd 4 rfl
                  have e130 : ρ (.tmp 130) = .pointer (some ⟨q116, 1, none⟩) := (hρ.out 4 130 rfl (by rw [hs.size]; decide) rfl).trans r4
                  have h_q116 := keep_below h_q116 hwx
                  refine g_load rfl e130 Try.isAgg47 (box_cell h_q116 rfl) ?_
                  exact hK _ _ (Below.refl _ _) rfl
                · intro xv_ wx ρ hρ hwx hd K hK
                  obtain r5 : xv_ 5 = .slice A114 (ys.length - 1) c114 := hd 5 rfl
                  have e131 : ρ (.tmp 131) = .slice A114 (ys.length - 1) c114 := (hρ.out 5 131 rfl (by rw [hs.size]; decide) rfl).trans r5
                  refine g_len (e := _) rfl Try.underlying47 e131 ?_
                  exact hK _ _ (Below.refl _ _) rfl
                · intro xv_ wx ρ hρ hwx hd K hK
                  have e7 : ρ (.tmp 7) = .pointer (some ⟨q26, 0, none⟩) := (hρ.inn 7 rfl).trans s7
                  refine g_field (r := 1) rfl e7 Try.underlying50 rfl (fun w => Try.sizeOf47 w) rfl rfl ?_
                  exact hK _ _ (Below.refl _ _) rfl
                · intro xv_ wx ρ hρ hwx hd K hK
                  obtain r7 : xv_ 7 = .pointer (some ⟨q26, 1, none⟩) := hd 7 rfl
                  have e133 : ρ (.tmp 133) = .pointer (some ⟨q26, 1, none⟩) := (hρ.out 7 133 rfl (by rw [hs.size]; decide) rfl).trans r7
                  have h_q26 := keep_below h_q26 hwx
                  refine g_load rfl e133 Try.isAgg47 (box_cell h_q26 rfl) ?_
                  exact hK _ _ (Below.refl _ _) rfl
                · intro xv_ wx ρ hρ hwx hd K hK
                  obtain r8 : xv_ 8 = .slice A24 ys.length c24 := hd 8 rfl
                  have e134 : ρ (.tmp 134) = .slice A24 ys.length c24 := (hρ.out 8 134 rfl (by rw [hs.size]; decide) rfl).trans r8
                  refine g_len (e := _) rfl Try.underlying47 e134 ?_
                  exact hK _ _ (Below.refl _ _) rfl
                · intro xv_ wx ρ hρ hwx hd K hK
                  obtain r9 : xv_ 9 = .int .i64 ((ys.length : Nat) : Int) := hd 9 rfl
                  have e135 : ρ (.tmp 135) = .int .i64 ((ys.length : Nat) : Int) := (hρ.out 9 135 rfl (by rw [hs.size]; decide) rfl).trans r9
                  refine g_sub (r := ((ys.length : Nat) : Int) - 1) rfl e135 ((hρ.cst _)) (by omega) (by omega) ?_
                  exact hK _ _ (Below.refl _ _) rfl
                · intro xv_ wx ρ hρ hwx hd K hK
                  obtain r6 : xv_ 6 = .int .i64 ((ys.length - 1 : Nat) : Int) := hd 6 rfl
                  have e132 : ρ (.tmp 132) = .int .i64 ((ys.length - 1 : Nat) : Int) := (hρ.out 6 132 rfl (by rw [hs.size]; decide) rfl).trans r6
                  obtain r10 : xv_ 10 = .int .i64 (((ys.length : Nat) : Int) - 1) := hd 10 rfl
                  have e136 : ρ (.tmp 136) = .int .i64 (((ys.length : Nat) : Int) - 1) := (hρ.out 10 136 rfl (by rw [hs.size]; decide) rfl).trans r10
                  refine g_neq rfl e132 e136 ?_
                  exact hK _ _ (Below.refl _ _) (congrArg (fun b => Value.bool (!b)) (decide_eq_true (by omega)))
                · intro xv_ wx ρ hρ hwx hd K hK
                  obtain r11 : xv_ 11 = .bool false := hd 11 rfl
                  have e137 : ρ (.tmp 137) = .bool false := (hρ.out 11 137 rfl (by rw [hs.size]; decide) rfl).trans r11
                  refine g_move rfl e137 ?_
                  exact hK _ _ (Below.refl _ _) rfl
                · intro xv_ wx ρ hρ hwx hd K hK
                  have e11 : ρ (.tmp 11) = .slice G114 ((ys.take 1).length) e114 := (hρ.inn 11 rfl).trans s11
                  refine g_move rfl e11 ?_
                  exact hK _ _ (Below.refl _ _) rfl
                · intro xv_ wx ρ hρ hwx hd K hK
                  obtain r13 : xv_ 13 = .slice G114 ((ys.take 1).length) e114 := hd 13 rfl
                  have e139 : ρ (.tmp 139) = .slice G114 ((ys.take 1).length) e114 := (hρ.out 13 139 rfl (by rw [hs.size]; decide) rfl).trans r13
                  refine g_index (r := o122 + 0 * 4) (k := 0) rfl (e139.trans (slice_at hA123)) ((hρ.cst _)) Try.underlying47 (fun w => Try.sizeOf26 w) (by omega) rfl ?_
                  exact hK _ _ (Below.refl _ _) rfl
                · intro xv_ wx ρ hρ hwx hd K hK
                  obtain r14 : xv_ 14 = .pointer (some ⟨b121, o122 + 0 * 4, none⟩) := hd 14 rfl
                  have e140 : ρ (.tmp 140) = .pointer (some ⟨b121, o122 + 0 * 4, none⟩) := (hρ.out 14 140 rfl (by rw [hs.size]; decide) rfl).trans r14
                  have hc124 := elem_below hc124 hwx hl_hc124
                  refine g_loadA (l := cRecord (ys.take 1)[0]) rfl e140 Try.isAgg26 Try.sizeOf26 rfl (fun j u hu => by rw [Nat.add_assoc]; exact hc124 j u (by have := (List.getElem?_eq_some_iff.1 hu).1; exact this) hu) ?_
                  exact hK _ _ (Below.refl _ _) rfl
                · intro xv_ wx ρ hρ hwx hd K hK
                  have e7 : ρ (.tmp 7) = .pointer (some ⟨q26, 0, none⟩) := (hρ.inn 7 rfl).trans s7
                  refine g_field (r := 1) rfl e7 Try.underlying50 rfl (fun w => Try.sizeOf47 w) rfl rfl ?_
                  exact hK _ _ (Below.refl _ _) rfl
                · intro xv_ wx ρ hρ hwx hd K hK
                  obtain r16 : xv_ 16 = .pointer (some ⟨q26, 1, none⟩) := hd 16 rfl
                  have e142 : ρ (.tmp 142) = .pointer (some ⟨q26, 1, none⟩) := (hρ.out 16 142 rfl (by rw [hs.size]; decide) rfl).trans r16
                  have h_q26 := keep_below h_q26 hwx
                  refine g_load rfl e142 Try.isAgg47 (box_cell h_q26 rfl) ?_
                  exact hK _ _ (Below.refl _ _) rfl
                · intro xv_ wx ρ hρ hwx hd K hK
                  obtain r17 : xv_ 17 = .slice A24 ys.length c24 := hd 17 rfl
                  have e143 : ρ (.tmp 143) = .slice A24 ys.length c24 := (hρ.out 17 143 rfl (by rw [hs.size]; decide) rfl).trans r17
                  refine g_index (r := o126 + 0 * 4) (k := 0) rfl (e143.trans (slice_at hA127)) ((hρ.cst _)) Try.underlying47 (fun w => Try.sizeOf26 w) (by omega) rfl ?_
                  exact hK _ _ (Below.refl _ _) rfl
                · intro xv_ wx ρ hρ hwx hd K hK
                  obtain r18 : xv_ 18 = .pointer (some ⟨b125, o126 + 0 * 4, none⟩) := hd 18 rfl
                  have e144 : ρ (.tmp 144) = .pointer (some ⟨b125, o126 + 0 * 4, none⟩) := (hρ.out 18 144 rfl (by rw [hs.size]; decide) rfl).trans r18
                  have hc128 := elem_below hc128 hwx hl_hc128
                  refine g_loadA (l := cRecord ys[0]) rfl e144 Try.isAgg26 Try.sizeOf26 rfl (fun j u hu => by rw [Nat.add_assoc]; exact hc128 j u (by have := (List.getElem?_eq_some_iff.1 hu).1; exact this) hu) ?_
                  exact hK _ _ (Below.refl _ _) rfl
                · intro xv_ wx ρ hρ hwx hd K hK
                  obtain r15 : xv_ 15 = .agg #[.int .i64 ((ys.take 1)[0].f0), .int .i64 ((ys.take 1)[0].f1), .int .i64 ((ys.take 1)[0].f2), .string ⟨((ys.take 1)[0].f3).toArray⟩] := hd 15 rfl
                  have e141 : ρ (.tmp 141) = .agg #[.int .i64 ((ys.take 1)[0].f0), .int .i64 ((ys.take 1)[0].f1), .int .i64 ((ys.take 1)[0].f2), .string ⟨((ys.take 1)[0].f3).toArray⟩] := (hρ.out 15 141 rfl (by rw [hs.size]; decide) rfl).trans r15
                  obtain r19 : xv_ 19 = .agg #[.int .i64 (ys[0].f0), .int .i64 (ys[0].f1), .int .i64 (ys[0].f2), .string ⟨(ys[0].f3).toArray⟩] := hd 19 rfl
                  have e145 : ρ (.tmp 145) = .agg #[.int .i64 (ys[0].f0), .int .i64 (ys[0].f1), .int .i64 (ys[0].f2), .string ⟨(ys[0].f3).toArray⟩] := (hρ.out 19 145 rfl (by rw [hs.size]; decide) rfl).trans r19
                  refine g_neqR rfl e141 e145 (by simp only [List.getElem_take]) ?_
                  exact hK _ _ (Below.refl _ _) rfl
                · intro xv_ wx ρ hρ hwx hd K hK
                  obtain r12 : xv_ 12 = .bool false := hd 12 rfl
                  have e138 : ρ (.tmp 138) = .bool false := (hρ.out 12 138 rfl (by rw [hs.size]; decide) rfl).trans r12
                  obtain r20 : xv_ 20 = .bool false := hd 20 rfl
                  have e146 : ρ (.tmp 146) = .bool false := (hρ.out 20 146 rfl (by rw [hs.size]; decide) rfl).trans r20
                  refine g_pick_f rfl e138 e146 ?_
                  exact hK _ _ (Below.refl _ _) rfl
                · intro xv_ wx ρ hρ hwx hd K hK
                  obtain r3 : xv_ 3 = .bool true := hd 3 rfl
                  have e129 : ρ (.tmp 129) = .bool true := (hρ.out 3 129 rfl (by rw [hs.size]; decide) rfl).trans r3
                  obtain r21 : xv_ 21 = .bool false := hd 21 rfl
                  have e147 : ρ (.tmp 147) = .bool false := (hρ.out 21 147 rfl (by rw [hs.size]; decide) rfl).trans r21
                  refine g_pick_t rfl e129 e147 ?_
                  exact hK _ _ (Below.refl _ _) rfl
              · intro x0_ w129 hb_w129 hr0
                obtain r0 : x0_ 0 = .slice G114 ((ys.take 1).length) e114 := hr0 0 (by decide) rfl rfl
                obtain r1 : x0_ 1 = .int .i64 (((ys.take 1).length : Nat) : Int) := hr0 1 (by decide) rfl rfl
                obtain r2 : x0_ 2 = .bool true := hr0 2 (by decide) rfl rfl
                obtain r3 : x0_ 3 = .bool true := hr0 3 (by decide) rfl rfl
                obtain r4 : x0_ 4 = .pointer (some ⟨q116, 1, none⟩) := hr0 4 (by decide) rfl rfl
                obtain r5 : x0_ 5 = .slice A114 (ys.length - 1) c114 := hr0 5 (by decide) rfl rfl
                obtain r6 : x0_ 6 = .int .i64 ((ys.length - 1 : Nat) : Int) := hr0 6 (by decide) rfl rfl
                obtain r7 : x0_ 7 = .pointer (some ⟨q26, 1, none⟩) := hr0 7 (by decide) rfl rfl
                obtain r8 : x0_ 8 = .slice A24 ys.length c24 := hr0 8 (by decide) rfl rfl
                obtain r9 : x0_ 9 = .int .i64 ((ys.length : Nat) : Int) := hr0 9 (by decide) rfl rfl
                obtain r10 : x0_ 10 = .int .i64 (((ys.length : Nat) : Int) - 1) := hr0 10 (by decide) rfl rfl
                obtain r11 : x0_ 11 = .bool false := hr0 11 (by decide) rfl rfl
                obtain r12 : x0_ 12 = .bool false := hr0 12 (by decide) rfl rfl
                obtain r13 : x0_ 13 = .slice G114 ((ys.take 1).length) e114 := hr0 13 (by decide) rfl rfl
                obtain r14 : x0_ 14 = .pointer (some ⟨b121, o122 + 0 * 4, none⟩) := hr0 14 (by decide) rfl rfl
                obtain r15 : x0_ 15 = .agg #[.int .i64 ((ys.take 1)[0].f0), .int .i64 ((ys.take 1)[0].f1), .int .i64 ((ys.take 1)[0].f2), .string ⟨((ys.take 1)[0].f3).toArray⟩] := hr0 15 (by decide) rfl rfl
                obtain r16 : x0_ 16 = .pointer (some ⟨q26, 1, none⟩) := hr0 16 (by decide) rfl rfl
                obtain r17 : x0_ 17 = .slice A24 ys.length c24 := hr0 17 (by decide) rfl rfl
                obtain r18 : x0_ 18 = .pointer (some ⟨b125, o126 + 0 * 4, none⟩) := hr0 18 (by decide) rfl rfl
                obtain r19 : x0_ 19 = .agg #[.int .i64 (ys[0].f0), .int .i64 (ys[0].f1), .int .i64 (ys[0].f2), .string ⟨(ys[0].f3).toArray⟩] := hr0 19 (by decide) rfl rfl
                obtain r20 : x0_ 20 = .bool false := hr0 20 (by decide) rfl rfl
                obtain r21 : x0_ 21 = .bool false := hr0 21 (by decide) rfl rfl
                obtain r22 : x0_ 22 = .bool false := hr0 22 (by decide) rfl rfl
                clear hr0
                replace h_q6 := keep_below h_q6 hb_w129
                replace h_q19 := keep_below h_q19 hb_w129
                replace h_q26 := keep_below h_q26 hb_w129
                replace h_q116 := keep_below h_q116 hb_w129
                replace o_z := own_below o_z hb_w129
                replace o_d := own_below o_d hb_w129
                replace o_zy := own_below o_zy hb_w129
                replace o_dy := own_below o_dy hb_w129
                replace o_zt := own_below o_zt hb_w129
                replace o_dt := own_below o_dt hb_w129
                replace o_gt := own_below o_gt hb_w129
                replace hB := hB.trans (hb_w129.mono hB.size)
                clear hb_w129
                intro xv_ a92 hρ hsz hdf qx_ ql_ qk_ qlk_
                replace s0 : a92.eval (.tmp 0) = .slice A n c := (hρ.inn 0 rfl).trans s0
                replace s2 : a92.eval (.tmp 2) = .bool false := (hρ.inn 2 rfl).trans s2
                replace s3 : a92.eval (.tmp 3) = .pointer (some ⟨q6, 0, none⟩) := (hρ.inn 3 rfl).trans s3
                replace s4 : a92.eval (.tmp 4) = .int .i64 ((k : Nat) : Int) := (hρ.inn 4 rfl).trans s4
                replace s5 : a92.eval (.tmp 5) = .pointer (some ⟨q19, 0, none⟩) := (hρ.inn 5 rfl).trans s5
                replace s6 : a92.eval (.tmp 6) = .int .i64 (6 + (((x.f3).length : Nat) : Int)) := (hρ.inn 6 rfl).trans s6
                replace s7 : a92.eval (.tmp 7) = .pointer (some ⟨q26, 0, none⟩) := (hρ.inn 7 rfl).trans s7
                replace s8 : a92.eval (.tmp 8) = .int .i64 ((i : Nat) : Int) := (hρ.inn 8 rfl).trans s8
                replace s10 : a92.eval (.tmp 10) = .pointer (some ⟨q116, 0, none⟩) := (hρ.inn 10 rfl).trans s10
                replace s11 : a92.eval (.tmp 11) = .slice G114 ((ys.take 1).length) e114 := (hρ.inn 11 rfl).trans s11
                replace s19 : a92.eval (.tmp 19) = .bool true := (hρ.inn 19 rfl).trans s19
                replace s61 : a92.eval (.tmp 61) = .bool false := (hρ.inn 61 rfl).trans s61
                replace s69 : a92.eval (.tmp 69) = .bool false := (hρ.inn 69 rfl).trans s69
                replace s114 : a92.eval (.tmp 114) = .bool false := (hρ.inn 114 rfl).trans s114
                replace s120 : a92.eval (.tmp 120) = .bool true := (hρ.inn 120 rfl).trans s120
                have s148 : a92.eval (.tmp 148) = .bool false := (hρ.out 22 148 rfl (by rw [hs.size]; decide)).trans ((qx_ 22 (by decide) rfl rfl).trans r22)
                replace hs : St 152 a92 := ⟨hsz.trans hs.size, hdf.trans hs.nodef⟩
                clear hρ hsz hdf qx_ ql_ qk_ qlk_
                refine hK119 _ _ ?_
                clear hK119
                refine c_false s148 ?_
                refine wp_skip ?_
                exact jK108 _ _ ⟨hs, s0, s2, s3, s4, s5, s6, s7, s8, s19, s61, s69, s114, hB, h_q6, h_q19, h_q26, o_z, o_d, o_zy, o_dy⟩
            · refine wp_drawn (n := 152) [] [] [] (fun k_ v_ _wx => match k_ with | 0 => v_ = .slice G114 ((ys.take 1).length) e114 | 1 => v_ = .int .i64 (((ys.take 1).length : Nat) : Int) | 2 => v_ = .bool false | 3 => v_ = .bool false | 12 => v_ = undef | 22 => v_ = .bool false | _ => True) (by kernel_rfl) (by kernel_rfl) (by kernel_rfl) (by kernel_rfl) hs.size ?_ ?_ ?_
              · intro i v wa wb hb hr
                rcases i with _ | _ | _ | _ | _ | _ | _ | _ | _ | _ | _ | _ | _ | _ | _ | _ | _ | _ | _ | _ | _ | _ | _ | i
                · exact hr
                · exact hr
                · exact hr
                · exact hr
                · trivial
                · trivial
                · trivial
                · trivial
                · trivial
                · trivial
                · trivial
                · trivial
                · exact hr
                · trivial
                · trivial
                · trivial
                · trivial
                · trivial
                · trivial
                · trivial
                · trivial
                · trivial
                · exact hr
                · trivial
              · refine d_step rfl rfl ?_ (d_step rfl rfl ?_ (d_step rfl rfl ?_ (d_step rfl rfl ?_ (d_skip 3 true 129 rfl rfl rfl (fun v w h => Or.inl h) (fun w => trivial) (d_skip 3 true 129 rfl rfl rfl (fun v w h => Or.inl h) (fun w => trivial) (d_skip 3 true 129 rfl rfl rfl (fun v w h => Or.inl h) (fun w => trivial) (d_skip 3 true 129 rfl rfl rfl (fun v w h => Or.inl h) (fun w => trivial) (d_skip 3 true 129 rfl rfl rfl (fun v w h => Or.inl h) (fun w => trivial) (d_skip 3 true 129 rfl rfl rfl (fun v w h => Or.inl h) (fun w => trivial) (d_skip 3 true 129 rfl rfl rfl (fun v w h => Or.inl h) (fun w => trivial) (d_skip 3 true 129 rfl rfl rfl (fun v w h => Or.inl h) (fun w => trivial) (d_skip 3 true 129 rfl rfl rfl (fun v w h => Or.inl h) (fun w => rfl) (d_skip 12 false 138 rfl rfl rfl (fun v w h => Or.inr h) (fun w => trivial) (d_skip 12 false 138 rfl rfl rfl (fun v w h => Or.inr h) (fun w => trivial) (d_skip 12 false 138 rfl rfl rfl (fun v w h => Or.inr h) (fun w => trivial) (d_skip 12 false 138 rfl rfl rfl (fun v w h => Or.inr h) (fun w => trivial) (d_skip 12 false 138 rfl rfl rfl (fun v w h => Or.inr h) (fun w => trivial) (d_skip 12 false 138 rfl rfl rfl (fun v w h => Or.inr h) (fun w => trivial) (d_skip 12 false 138 rfl rfl rfl (fun v w h => Or.inr h) (fun w => trivial) (d_skip 12 false 138 rfl rfl rfl (fun v w h => Or.inr h) (fun w => trivial) (d_skip 3 true 129 rfl rfl rfl (fun v w h => Or.inl h) (fun w => trivial) (d_step rfl rfl ?_ (d_nil)))))))))))))))))))))))
                · intro xv_ wx ρ hρ hwx hd K hK
                  have e11 : ρ (.tmp 11) = .slice G114 ((ys.take 1).length) e114 := (hρ.inn 11 rfl).trans s11
                  refine g_move rfl e11 ?_
                  exact hK _ _ (Below.refl _ _) rfl
                · intro xv_ wx ρ hρ hwx hd K hK
                  obtain r0 : xv_ 0 = .slice G114 ((ys.take 1).length) e114 := hd 0 rfl
                  have e126 : ρ (.tmp 126) = .slice G114 ((ys.take 1).length) e114 := (hρ.out 0 126 rfl (by rw [hs.size]; decide) rfl).trans r0
                  refine g_len (e := _) rfl Try.underlying47 e126 ?_
                  exact hK _ _ (Below.refl _ _) rfl
                · intro xv_ wx ρ hρ hwx hd K hK
                  obtain r1 : xv_ 1 = .int .i64 (((ys.take 1).length : Nat) : Int) := hd 1 rfl
                  have e127 : ρ (.tmp 127) = .int .i64 (((ys.take 1).length : Nat) : Int) := (hρ.out 1 127 rfl (by rw [hs.size]; decide) rfl).trans r1
                  refine g_gtr rfl e127 ((hρ.cst _)) ?_
                  exact hK _ _ (Below.refl _ _) (congrArg Value.bool (decide_eq_false hc120))
                · intro xv_ wx ρ hρ hwx hd K hK
                  obtain r2 : xv_ 2 = .bool false := hd 2 rfl
                  have e128 : ρ (.tmp 128) = .bool false := (hρ.out 2 128 rfl (by rw [hs.size]; decide) rfl).trans r2
                  refine g_move rfl e128 ?_
                  exact hK _ _ (Below.refl _ _) rfl
                · intro xv_ wx ρ hρ hwx hd K hK
                  obtain r3 : xv_ 3 = .bool false := hd 3 rfl
                  have e129 : ρ (.tmp 129) = .bool false := (hρ.out 3 129 rfl (by rw [hs.size]; decide) rfl).trans r3
                  refine g_pick_f rfl e129 ((hρ.cst _)) ?_
                  exact hK _ _ (Below.refl _ _) rfl
              · intro x0_ w130 hb_w130 hr0
                obtain r0 : x0_ 0 = .slice G114 ((ys.take 1).length) e114 := hr0 0 (by decide) rfl rfl
                obtain r1 : x0_ 1 = .int .i64 (((ys.take 1).length : Nat) : Int) := hr0 1 (by decide) rfl rfl
                obtain r2 : x0_ 2 = .bool false := hr0 2 (by decide) rfl rfl
                obtain r3 : x0_ 3 = .bool false := hr0 3 (by decide) rfl rfl
                obtain r22 : x0_ 22 = .bool false := hr0 22 (by decide) rfl rfl
                clear hr0
                replace h_q6 := keep_below h_q6 hb_w130
                replace h_q19 := keep_below h_q19 hb_w130
                replace h_q26 := keep_below h_q26 hb_w130
                replace h_q116 := keep_below h_q116 hb_w130
                replace o_z := own_below o_z hb_w130
                replace o_d := own_below o_d hb_w130
                replace o_zy := own_below o_zy hb_w130
                replace o_dy := own_below o_dy hb_w130
                replace o_zt := own_below o_zt hb_w130
                replace o_dt := own_below o_dt hb_w130
                replace o_gt := own_below o_gt hb_w130
                replace hB := hB.trans (hb_w130.mono hB.size)
                clear hb_w130
                intro xv_ a92 hρ hsz hdf qx_ ql_ qk_ qlk_
                replace s0 : a92.eval (.tmp 0) = .slice A n c := (hρ.inn 0 rfl).trans s0
                replace s2 : a92.eval (.tmp 2) = .bool false := (hρ.inn 2 rfl).trans s2
                replace s3 : a92.eval (.tmp 3) = .pointer (some ⟨q6, 0, none⟩) := (hρ.inn 3 rfl).trans s3
                replace s4 : a92.eval (.tmp 4) = .int .i64 ((k : Nat) : Int) := (hρ.inn 4 rfl).trans s4
                replace s5 : a92.eval (.tmp 5) = .pointer (some ⟨q19, 0, none⟩) := (hρ.inn 5 rfl).trans s5
                replace s6 : a92.eval (.tmp 6) = .int .i64 (6 + (((x.f3).length : Nat) : Int)) := (hρ.inn 6 rfl).trans s6
                replace s7 : a92.eval (.tmp 7) = .pointer (some ⟨q26, 0, none⟩) := (hρ.inn 7 rfl).trans s7
                replace s8 : a92.eval (.tmp 8) = .int .i64 ((i : Nat) : Int) := (hρ.inn 8 rfl).trans s8
                replace s10 : a92.eval (.tmp 10) = .pointer (some ⟨q116, 0, none⟩) := (hρ.inn 10 rfl).trans s10
                replace s11 : a92.eval (.tmp 11) = .slice G114 ((ys.take 1).length) e114 := (hρ.inn 11 rfl).trans s11
                replace s19 : a92.eval (.tmp 19) = .bool true := (hρ.inn 19 rfl).trans s19
                replace s61 : a92.eval (.tmp 61) = .bool false := (hρ.inn 61 rfl).trans s61
                replace s69 : a92.eval (.tmp 69) = .bool false := (hρ.inn 69 rfl).trans s69
                replace s114 : a92.eval (.tmp 114) = .bool false := (hρ.inn 114 rfl).trans s114
                replace s120 : a92.eval (.tmp 120) = .bool true := (hρ.inn 120 rfl).trans s120
                have s148 : a92.eval (.tmp 148) = .bool false := (hρ.out 22 148 rfl (by rw [hs.size]; decide)).trans ((qx_ 22 (by decide) rfl rfl).trans r22)
                replace hs : St 152 a92 := ⟨hsz.trans hs.size, hdf.trans hs.nodef⟩
                clear hρ hsz hdf qx_ ql_ qk_ qlk_
                refine hK119 _ _ ?_
                clear hK119
                refine c_false s148 ?_
                refine wp_skip ?_
                exact jK108 _ _ ⟨hs, s0, s2, s3, s4, s5, s6, s7, s8, s19, s61, s69, s114, hB, h_q6, h_q19, h_q26, o_z, o_d, o_zy, o_dy⟩
          · replace s120 := s120.trans (congrArg Value.bool (decide_eq_false hc112))
            replace s120 : a84.eval (.tmp 120) = .bool false := s120
            refine c_false s120 ?_
            refine wp_skip ?_
            exact jK108 _ _ ⟨hs, s0, s2, s3, s4, s5, s6, s7, s8, s19, s61, s69, s114, hB, h_q6, h_q19, h_q26, o_z, o_d, o_zy, o_dy⟩
    · replace s19 := s19.trans (congrArg Value.bool (decide_eq_false hc16))
      replace s19 : a12.eval (.tmp 19) = .bool false := s19
      refine c_false s19 ?_
      refine wp_exit ?_
      refine hK9 _ _ ?_
      clear hK9
      refine wp_seq_k fun K131 hK131 => ?_
      refine wp_region_lit ?_
      refine q_val rfl rfl ?_
      refine g_loadB rfl s3 Try.isAgg50 Try.sizeOf50 rfl h_q6 ?_
      intro a13 p13
      have s150 : a13.eval (.tmp 150) = .agg #[.int .i64 room, .slice Z zs.length cz, .slice D ds.length cd] := p13.at hs (by decide)
      replace hs := p13.st hs
      refine q_val rfl rfl ?_
      refine g_call rfl rfl Try.call35 (arr1 s150) ?_
      refine (recorderOk_g hG (by omega) rfl (Rd.of_own o_z) rfl (Rd.of_own o_d)).mono ?_
      rintro e w133 ⟨rfl, hb132⟩
      refine ⟨_, rfl, ?_⟩
      replace h_q6 := keep_below h_q6 hb132
      replace o_z := own_below o_z hb132
      replace o_d := own_below o_d hb132
      replace hB := hB.trans (hb132.mono hB.size)
      clear hb132
      intro a14 p14
      have s151 : a14.eval (.tmp 151) = .bool true := p14.at hs (by decide)
      replace hs := p14.st hs
      refine q_val rfl rfl ?_
      refine g_assign rfl s151 ?_
      intro a15 p15
      have s2 : a15.eval (.tmp 2) = .bool true := p15.at hs (by decide)
      replace hs := p15.st hs
      refine wpList_nil ?_
      refine hK131 _ _ ?_
      clear hK131
      refine wp_ret ?_
      try dsimp only [Exit.then, Exit.inBlock]
      refine ret1 hs Try.results9 (res_tmp s2) ?_
      exact ⟨rfl, hB⟩

/-! ### The row's step, written by a program of ours (frame.py) -/
namespace fnRecorderDone
open Go.ChangeShapes Go.WideShapes Go.ChangeAt
open Go.ChangeMaps (open_string)
theorem own : ownKnob Try.prog.godebug = none := by kernel_rfl
theorem laidOut : laidOutB Try.prog = true := by kernel_rfl
set_option maxRecDepth 100000 in
theorem lifted (os : Os) (started : os.Started) (H : Type) (enc : TypeId × Value → H) :
    ReturnsInHanded {} Try.checked os 9 .any (Rows.fnRecorderSpec.pre6 enc Try.prog Try.f9 Rows.fnRecorderRow.domain false) (Rows.fnRecorderSpec.post enc Try.prog Try.f9 false true false false) := by
  refine returnsInHanded_of_change (C := Try.checked) own started (by kernel_rfl) Try.func9
    (ChangeSpec.witness6 (enc := enc) (C := Try.checked) false ⟨#[], #[.slice none 0 0], []⟩ 8 (by kernel_rfl) (by kernel_rfl) (by kernel_rfl) (by kernel_rfl)) ?_
  intro W base args ds gs before hval0 hW hcnd _
  have hval : ∀ (j : Nat) t v, Try.f9.params[j]? = some t → args[j]? = some v → Value.okWide Try.prog W .any base t v := hval0
  have hW' := hW
  obtain ⟨p, q, hA0, hV, rfl, hfz, hnd⟩ := hW
  have hA : DataW.TrodAll enc Try.prog W 0 (fun _ => true) true Try.f9.params.toList args.toList ds p := hA0
  rw [Try.params9] at hA hval
  obtain ⟨v0, vs0, d0, ds0, p0, q0, hargs, rfl, rfl, h0, r0⟩ := trodAll_cons hA
  obtain ⟨rfl, rfl, rfl⟩ := trodAll_nil r0
  obtain rfl : args = #[v0] := by cases args; simp_all
  obtain ⟨rfl, rfl⟩ := trodVars_none hV
  have k0 := h0
  have lt0 : ∀ x ∈ p0, x.block < W.heap.size := by obtain ⟨m, hm⟩ := k0; exact DataW.trod_lt m _ _ _ hm
  obtain ⟨A0, n0, c0, rs0, hv0, hlen0, hnc0, hcm0, hrd0, _⟩ := open_slice_of cB (fun _ => True) 1 cB_len Try.underlying44 (by kernel_rfl) (by decide) (fun _ _ _ hh => el_byte Try.underlying5 hh) h0.choose_spec
  obtain ⟨_, _, _, rfl⟩ := okWide_slice Try.underlying44 (hval 0 44 v0 rfl rfl)
  simp only [Value.cells, List.cons.injEq, Value.slice.injEq, and_true] at hv0
  obtain ⟨rfl, rfl, rfl⟩ := hv0
  clear hA0 hval0
  refine (fnRecorder_walk (w := W) _ _ _ rs0 hlen0 hnc0 hcm0 hrd0).mono fun e W' ⟨he, bel⟩ => ?_
  subst he
  exact ⟨_, rfl, _, _, _, [], _, [], hW', trodAll_mk1 (shut_bool Try.underlying4 _), (trodAll_cons_mk (Below.trod laidOut (by kernel_rfl) (of_decide_eq_true (by kernel_rfl)) k0 bel lt0) trodAll_mk0), rfl, bel.frame _, fun h => by cases h⟩
theorem proved : Rows.FnRecorderSaid :=
  OpenClaim.holds_of_wide 9 Try.f9 rfl rfl rfl rfl rfl rfl rfl ⟨rfl, rfl, rfl, rfl, rfl⟩ rfl rfl rfl rfl rfl (by kernel_rfl) Try.func9 (by kernel_rfl)
    (of_decide_eq_true (by kernel_rfl)) (by unfold Func.isWrapper; first | (rw [if_pos (by decide +kernel)]; kernel_rfl) | (rw [if_neg (by decide +kernel)]; exact ⟨rfl, rfl⟩))
    (fun os started H enc _ => lifted os started H enc)
end fnRecorderDone
end Go.Proofs.Ytnjopeonmenopaa
