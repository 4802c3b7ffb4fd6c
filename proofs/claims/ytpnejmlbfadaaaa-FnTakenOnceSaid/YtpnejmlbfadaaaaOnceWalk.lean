/- Commands that are sent again and again over a link that loses and repeats are taken once, in order, and all of them at last. No condition. -/
import Derived.Test.YtpnejmlbfadaaaaOnceLaw
import Derived.Test.YtpnejmlbfadaaaaFmt
import Derived.Test.YtpnejmlbfadaaaaAtN
import Derived.Test.YtpnejmlbfadaaaaFlowHead
namespace Go.Proofs.Ytpnejmlbfadaaaa
open Go.RowKit
set_option linter.unusedSimpArgs false
set_option linter.unusedVariables false

theorem flatS_one (zs : List (List UInt8)) : ∀ u ∈ zs.flatMap cS, u.oneCell' = true := by
  intro u hu
  obtain ⟨r, _, hr⟩ := List.mem_flatMap.1 hu
  rw [List.mem_singleton.1 hr]
  rfl
theorem take_len {L : List (List UInt8)} {T : Nat} (h : T ≤ L.length) : (L.take T).length = T := by
  rw [List.length_take]
  omega
def bN (b : Bool) : Nat := if b then 1 else 0
theorem bN_le (b : Bool) : bN b ≤ 1 := by cases b <;> decide
set_option maxRecDepth 100000 in
set_option maxHeartbeats 4000000 in
theorem btoi_any {b : Bool} (w : World) :
    Calls Try.prog 32 #[.bool b] w fun e w' => e = .returned (.int .i64 ((bN b : Nat) : Int)) ∧ w = w' := by
  refine enter 4 Try.func32 rfl rfl (Nat.le_of_ble_eq_true rfl) ?_
  intro a0 hs hargs
  have s0 : a0.eval (.tmp 0) = .bool b := hargs 0 _ rfl
  clear hargs
  have hB : Below w.heap.size w w := Below.refl _ _
  refine wp_seq_k fun K1 hK1 => ?_
  refine wp_region_lit ?_
  refine q_v hs rfl rfl rfl (g_assign rfl rfl ?_)
  intro a1 p1
  have s2 : a1.eval (.tmp 2) = .int .i64 0 := p1.v
  refine wpList_nil ?_
  replace s0 := p1.k s0 rfl
  refine hK1 _ _ ?_
  clear hK1
  refine wp_seq_k fun K2 hK2 => ?_
  refine wp_seq_k fun K3 hK3 => ?_
  refine wp_region_lit ?_
  refine q_v p1.s rfl rfl rfl (g_move rfl s0 ?_)
  intro a2 p2
  refine wpList_nil ?_
  replace s2 := p2.k s2 rfl
  replace s3 := p2.v
  refine hK3 _ _ ?_
  clear hK3
  cases hb : b
  · replace s3 : a2.eval (.tmp 3) = .bool false := (s3).trans (congrArg Value.bool hb)
    refine c_false s3 ?_
    refine wp_skip ?_
    refine hK2 _ _ ?_
    clear hK2
    refine wp_seq_k fun K4 hK4 => ?_
    refine wp_region_lit ?_
    refine q_v p2.s rfl rfl rfl (g_assign rfl rfl ?_)
    intro a3 p3
    have s2 : a3.eval (.tmp 2) = .int .i64 0 := p3.v
    refine wpList_nil ?_
    refine hK4 _ _ ?_
    clear hK4
    refine wp_ret ?_
    try dsimp only [Exit.then, Exit.inBlock]
    refine ret1 p3.s Try.results32 (res_tmp s2) ?_
    exact ⟨by first | rfl | (rw [hb]; rfl), rfl⟩
  replace s3 : a2.eval (.tmp 3) = .bool true := (s3).trans (congrArg Value.bool hb)
  refine c_true s3 ?_
  refine wp_seq_k fun K5 hK5 => ?_
  refine wp_region_lit ?_
  refine q_v p2.s rfl rfl rfl (g_assign rfl rfl ?_)
  intro a3 p3
  have s2 : a3.eval (.tmp 2) = .int .i64 1 := p3.v
  refine wpList_nil ?_
  refine hK5 _ _ ?_
  clear hK5
  refine wp_ret ?_
  try dsimp only [Exit.then, Exit.inBlock]
  refine ret1 p3.s Try.results32 (res_tmp s2) ?_
  exact ⟨by first | rfl | (rw [hb]; rfl), rfl⟩
set_option maxRecDepth 100000 in
set_option maxHeartbeats 8000000 in
theorem fnTakenOnce_walk {w : World} (A : Option Addr) (n c : Nat) (bs : List UInt8) (hlen : bs.length = n) (hnc : n ≤ c) (hcm : c ≤ maxLen) (hr_cc : Rd w 1 A n (bs.flatMap cB)) :
    Calls Try.prog 6 #[.slice A n c] w fun e w' => e = .returned (.bool true) ∧ Below w.heap.size w w' := by
  have hcm2 := hcm
  unfold maxLen at hcm2
  refine enter 212 Try.func6 rfl rfl (Nat.le_of_ble_eq_true rfl) ?_
  intro a0 hs hargs
  have s0 : a0.eval (.tmp 0) = .slice A n c := hargs 0 _ rfl
  clear hargs
  have hB : Below w.heap.size w w := Below.refl _ _
  refine wp_seq_k fun K1 hK1 => ?_
  refine wp_region_lit ?_
  refine q_v hs rfl rfl rfl (g_assign rfl rfl ?_)
  intro a1 p1
  have s2 : a1.eval (.tmp 2) = .bool false := p1.v
  refine wpList_nil ?_
  replace s0 := p1.k s0 rfl
  refine hK1 _ _ ?_
  clear hK1
  refine wp_seq_k fun K2 hK2 => ?_
  refine wp_seq_k fun K3 hK3 => ?_
  refine wp_region_lit ?_
  refine q_v p1.s rfl rfl rfl (g_move rfl s0 ?_)
  intro a2 p2
  refine q_v p2.s rfl rfl rfl ?_
  refine g_call rfl rfl Try.call26 (arr1 p2.v) ?_
  refine (big_any _ _ _ _ (by omega)).mono ?_
  rintro e w' ⟨rfl, rfl⟩
  refine ⟨_, rfl, ?_⟩
  intro a3 p3
  refine wpList_nil ?_
  replace s0 := p3.k (p2.k s0 rfl) rfl
  replace s2 := p3.k (p2.k s2 rfl) rfl
  replace s25 := p3.v
  refine hK3 _ _ ?_
  clear hK3
  by_cases hbig : 1048576 < ((n : Nat) : Int)
  · replace s25 : a3.eval (.tmp 25) = .bool true := (s25).trans (congrArg Value.bool (decide_eq_true hbig))
    refine c_true s25 ?_
    refine wp_seq_k fun K4 hK4 => ?_
    refine wp_region_lit ?_
    refine q_v p3.s rfl rfl rfl (g_assign rfl rfl ?_)
    intro a4 p4
    have s2 : a4.eval (.tmp 2) = .bool true := p4.v
    refine wpList_nil ?_
    replace s0 := p4.k s0 rfl
    refine hK4 _ _ ?_
    clear hK4
    refine wp_ret ?_
    try dsimp only [Exit.then, Exit.inBlock]
    refine ret1 p4.s Try.results6 (res_tmp s2) ?_
    exact ⟨rfl, hB⟩
  replace s25 : a3.eval (.tmp 25) = .bool false := (s25).trans (congrArg Value.bool (decide_eq_false hbig))
  refine c_false s25 ?_
  refine wp_skip ?_
  refine hK2 _ _ ?_
  clear hK2
  refine wp_seq_k fun K5 hK5 => ?_
  have ha0 := atN_le bs 0
  refine wp_region_lit ?_
  refine q_v p3.s rfl rfl rfl (g_move rfl s0 ?_)
  intro a4 p4
  refine q_v p4.s rfl rfl rfl ?_
  refine g_call rfl rfl Try.call28 (arr2 p4.v rfl) ?_
  refine (at_nat hlen hnc hcm (hr_cc.below hB) 0 (by omega)).mono ?_
  rintro e w' ⟨rfl, rfl⟩
  refine ⟨_, rfl, ?_⟩
  intro a5 p5
  refine q_v p5.s rfl rfl rfl (g_rem (N := atN bs 0) (M := 20) rfl p5.v rfl (by omega) rfl (by decide) (by decide) ?_)
  intro a6 p6
  refine q_v p6.s rfl rfl rfl (g_add (r := 1 + (((atN bs 0) % 20 : Nat) : Int)) rfl rfl p6.v (by omega) (by omega) ?_)
  intro a7 p7
  refine q_v p7.s rfl rfl rfl ?_
  refine g_call rfl rfl Try.call27 (arr1 p7.v) ?_
  refine (newSender_on _ (by omega) (by omega)).mono ?_
  rintro e w7 ⟨rfl, hb6⟩
  refine ⟨_, rfl, ?_⟩
  replace hB := hB.trans (hb6.mono hB.size)
  clear hb6
  intro a8 p8
  refine q_v p8.s rfl rfl rfl (g_move rfl p8.v ?_)
  intro a9 p9
  refine q_v p9.s rfl rfl rfl (g_extract rfl p9.v rfl ?_)
  intro a10 p10
  refine q_v p10.s rfl rfl rfl (g_extract rfl (p10.k p9.v rfl) rfl ?_)
  intro a11 p11
  refine q_v p11.s rfl rfl rfl ?_
  refine g_alloc rfl Try.zeroValue39 rfl ?_
  intro q8 w9 N_q8
  have g_q8 : GeB w.heap.size q8 := ⟨Nat.le_trans hB.size N_q8.lo⟩
  replace hB := below_new hB hB.size N_q8
  have h_q8 := N_q8.here
  clear N_q8
  intro a12 p12
  refine q_eff rfl rfl ?_
  refine g_storeB rfl p12.v (p12.k (p11.k p10.v rfl) rfl) Try.sizeOf39 rfl rfl h_q8 rfl ?_
  intro w10 W_w10
  replace h_q8 := W_w10.here
  replace hB := below_wrote hB hB.size W_w10 g_q8.le
  clear W_w10
  refine q_v p12.s rfl rfl rfl (g_assign rfl (p12.k p11.v rfl) ?_)
  intro a13 p13
  refine wpList_nil ?_
  have kc3 := ((((((((((Kps.nil a3).u p4).u p5).u p6).u p7).u p8).u p9).u p10).u p11).u p12).u p13
  replace s0 := kc3.k s0 rfl
  replace s2 := kc3.k s2 rfl
  replace s3 := p13.k p12.v rfl
  replace s4 := p13.v
  clear kc3
  refine hK5 _ _ ?_
  clear hK5
  refine wp_seq_k fun K11 hK11 => ?_
  obtain ⟨wd, hwd⟩ : ∃ wd : Int, wd = 1 + (((atN bs 0) % 20 : Nat) : Int) := ⟨_, rfl⟩
  rw [← hwd] at h_q8
  have hwd1 : 1 ≤ wd ∧ wd ≤ 20 := by omega
  refine wp_region_lit ?_
  refine q_v p13.s rfl rfl rfl (g_build (cells := #[.int .i64 0, .bool false, .bool false, .int .i64 0]) rfl (arrB0 ) (by kernel_rfl) ?_)
  intro a14 p14
  refine q_v p14.s rfl rfl rfl ?_
  refine g_alloc rfl Try.zeroValue25 rfl ?_
  intro q12 w13 N_q12
  have n_q8_q12 := N_q12.ne ⟨lt_of_block h_q8⟩
  have n_q12_q8 := n_q8_q12.symm
  have g_q12 : GeB w.heap.size q12 := ⟨Nat.le_trans hB.size N_q12.lo⟩
  replace h_q8 := keep_below h_q8 N_q12.below
  replace hB := below_new hB hB.size N_q12
  have h_q12 := N_q12.here
  clear N_q12
  intro a15 p15
  refine q_eff rfl rfl ?_
  refine g_storeB rfl p15.v (p15.k p14.v rfl) Try.sizeOf25 rfl rfl h_q12 rfl ?_
  intro w14 W_w14
  replace h_q8 := keep_wrote h_q8 W_w14 n_q12_q8
  replace h_q12 := W_w14.here
  replace hB := below_wrote hB hB.size W_w14 g_q12.le
  clear W_w14
  refine wpList_nil ?_
  replace s0 := p15.k (p14.k s0 rfl) rfl
  replace s2 := p15.k (p14.k s2 rfl) rfl
  replace s3 := p15.k (p14.k s3 rfl) rfl
  replace s4 := p15.k (p14.k s4 rfl) rfl
  replace s5 := p15.v
  refine hK11 _ _ ?_
  clear hK11
  refine wp_seq_k fun K15 hK15 => ?_
  refine wp_region_lit ?_
  refine q_v p15.s rfl rfl rfl ?_
  refine g_bslice0 rfl Try.underlying43 Try.sizeOf9 ?_
  intro q16 w17 N_q16
  have n_q8_q16 := N_q16.ne ⟨lt_of_block h_q8⟩
  have n_q16_q8 := n_q8_q16.symm
  have n_q12_q16 := N_q16.ne ⟨lt_of_block h_q12⟩
  have n_q16_q12 := n_q12_q16.symm
  have g_q16 : GeB w.heap.size q16 := ⟨Nat.le_trans hB.size N_q16.lo⟩
  replace h_q8 := keep_below h_q8 N_q16.below
  replace h_q12 := keep_below h_q12 N_q16.below
  replace hB := below_new hB hB.size N_q16
  have h_q16 := N_q16.here
  clear N_q16
  intro a16 p16
  refine q_v p16.s rfl rfl rfl (g_assign rfl p16.v ?_)
  intro a17 p17
  refine wpList_nil ?_
  replace s0 := p17.k (p16.k s0 rfl) rfl
  replace s2 := p17.k (p16.k s2 rfl) rfl
  replace s3 := p17.k (p16.k s3 rfl) rfl
  replace s4 := p17.k (p16.k s4 rfl) rfl
  replace s5 := p17.k (p16.k s5 rfl) rfl
  replace s6 := p17.v
  refine hK15 _ _ ?_
  clear hK15
  refine wp_seq_k fun K18 hK18 => ?_
  refine wp_region_lit ?_
  refine q_v p17.s rfl rfl rfl ?_
  refine g_bslice0 rfl Try.underlying43 Try.sizeOf9 ?_
  intro q19 w20 N_q19
  have n_q8_q19 := N_q19.ne ⟨lt_of_block h_q8⟩
  have n_q19_q8 := n_q8_q19.symm
  have n_q12_q19 := N_q19.ne ⟨lt_of_block h_q12⟩
  have n_q19_q12 := n_q12_q19.symm
  have n_q16_q19 := N_q19.ne ⟨lt_of_block h_q16⟩
  have g_q19 : GeB w.heap.size q19 := ⟨Nat.le_trans hB.size N_q19.lo⟩
  replace h_q8 := keep_below h_q8 N_q19.below
  replace h_q12 := keep_below h_q12 N_q19.below
  replace h_q16 := keep_below h_q16 N_q19.below
  replace hB := below_new hB hB.size N_q19
  have h_q19 := N_q19.here
  clear N_q19
  intro a18 p18
  refine q_v p18.s rfl rfl rfl (g_assign rfl p18.v ?_)
  intro a19 p19
  refine wpList_nil ?_
  replace s0 := p19.k (p18.k s0 rfl) rfl
  replace s2 := p19.k (p18.k s2 rfl) rfl
  replace s3 := p19.k (p18.k s3 rfl) rfl
  replace s4 := p19.k (p18.k s4 rfl) rfl
  replace s5 := p19.k (p18.k s5 rfl) rfl
  replace s6 := p19.k (p18.k s6 rfl) rfl
  replace s7 := p19.v
  refine hK18 _ _ ?_
  clear hK18
  refine wp_seq_k fun K21 hK21 => ?_
  refine wp_seq_k fun K22 hK22 => ?_
  refine wp_region_lit ?_
  refine q_v p19.s rfl rfl rfl (g_assign rfl rfl ?_)
  intro a20 p20
  have s8 : a20.eval (.tmp 8) = .int .i64 0 := p20.v
  refine wpList_nil ?_
  replace s0 := p20.k s0 rfl
  replace s2 := p20.k s2 rfl
  replace s3 := p20.k s3 rfl
  replace s4 := p20.k s4 rfl
  replace s5 := p20.k s5 rfl
  replace s6 := p20.k s6 rfl
  replace s7 := p20.k s7 rfl
  refine hK22 _ _ ?_
  clear hK22
  refine wp_block ?_
  have o_of : w20.ownsRow w.heap.size 9 1 (.slice (some ⟨q16, 0, none⟩) 0 0) 0 ([].flatMap cS) := own_box_row (base := w.heap.size) h_q16 g_q16.le rfl (by decide) rfl
  have g_of : ∀ b, (some ⟨q16, 0, none⟩ : Option Addr).map (·.block) = some b → w.heap.size ≤ b := ge_box g_q16.le
  have d_of_q8 : (some ⟨q16, 0, none⟩ : Option Addr).map (·.block) ≠ some q8 := neb_map n_q16_q8
  have d_of_q12 : (some ⟨q16, 0, none⟩ : Option Addr).map (·.block) ≠ some q12 := neb_map n_q16_q12
  have d_of_q19 : (some ⟨q16, 0, none⟩ : Option Addr).map (·.block) ≠ some q19 := neb_map n_q16_q19
  have o_tk : w20.ownsRow w.heap.size 9 1 (.slice (some ⟨q19, 0, none⟩) 0 0) 0 ([].flatMap cS) := own_box_row (base := w.heap.size) h_q19 g_q19.le rfl (by decide) rfl
  have g_tk : ∀ b, (some ⟨q19, 0, none⟩ : Option Addr).map (·.block) = some b → w.heap.size ≤ b := ge_box g_q19.le
  have d_tk_q8 : (some ⟨q19, 0, none⟩ : Option Addr).map (·.block) ≠ some q8 := neb_map n_q19_q8
  have d_tk_q12 : (some ⟨q19, 0, none⟩ : Option Addr).map (·.block) ≠ some q12 := neb_map n_q19_q12
  have m_of_tk : ∀ b, ((some ⟨q16, 0, none⟩) : Option Addr).map (·.block) = some b → (some ⟨q19, 0, none⟩ : Option Addr).map (·.block) ≠ some b := row_ne_box d_of_q19
  have m_tk_of := ne_row_symm m_of_tk
  have o_wz : w20.ownsRow w.heap.size 80 2 (.slice none 0 0) 0 ([].flatMap cSent) := World.ownsRow_nil _ _ _ _
  have g_wz : ∀ b, (none : Option Addr).map (·.block) = some b → w.heap.size ≤ b := fun b h => by cases h
  have d_wz_q8 : (none : Option Addr).map (·.block) ≠ some q8 := fun h => by cases h
  have d_wz_q12 : (none : Option Addr).map (·.block) ≠ some q12 := fun h => by cases h
  have m_of_wz : ∀ b, ((some ⟨q16, 0, none⟩) : Option Addr).map (·.block) = some b → (none : Option Addr).map (·.block) ≠ some b := fun b _ h => by cases h
  have m_wz_of := ne_row_symm m_of_wz
  have m_tk_wz : ∀ b, ((some ⟨q19, 0, none⟩) : Option Addr).map (·.block) = some b → (none : Option Addr).map (·.block) ≠ some b := fun b _ h => by cases h
  have m_wz_tk := ne_row_symm m_tk_wz
  refine wp_loop (fun a wr => ∃ (k : Nat) (L : List (List UInt8)) (N : Nat) (D : Nat) (T : Nat) (ag : Bool) (wA : Option Addr) (wc : Nat) (oA : Option Addr) (oc : Nat) (tA : Option Addr) (tc : Nat), (St 212 a) ∧ (a.eval (.tmp 0) = .slice A n c) ∧ (a.eval (.tmp 2) = .bool false) ∧ (a.eval (.tmp 3) = .pointer (some ⟨q8, 0, none⟩)) ∧ (a.eval (.tmp 4) = .bool true) ∧ (a.eval (.tmp 5) = .pointer (some ⟨q12, 0, none⟩)) ∧ (a.eval (.tmp 6) = .slice oA N oc) ∧ (a.eval (.tmp 7) = .slice tA T tc) ∧ (a.eval (.tmp 8) = .int .i64 ((k : Nat) : Int)) ∧ (Below w.heap.size w wr) ∧ (wr.heap[q8]? = some (.cells #[.int .i64 ((L.length : Nat) : Int), .int .i64 wd, .slice wA ((wtL L D).length) wc, .int .i64 ((D : Nat) : Int)] 39 (0, 0))) ∧ (wr.heap[q12]? = some (.cells #[.int .i64 ((T : Nat) : Int), .bool false, .bool ag, .int .i64 ((T : Nat) : Int)] 25 (0, 0))) ∧ (wr.ownsRow w.heap.size 9 1 (.slice oA N oc) N (L.flatMap cS)) ∧ (wr.ownsRow w.heap.size 9 1 (.slice tA T tc) T ((L.take T).flatMap cS)) ∧ (wr.ownsRow w.heap.size 80 2 (.slice wA ((wtL L D).length) wc) ((wtL L D).length) ((wtL L D).flatMap cSent)) ∧ ((wA : Option Addr).map (·.block) ≠ some q8) ∧ ((wA : Option Addr).map (·.block) ≠ some q12) ∧ (∀ b, (oA : Option Addr).map (·.block) = some b → (wA : Option Addr).map (·.block) ≠ some b) ∧ (∀ b, (tA : Option Addr).map (·.block) = some b → (wA : Option Addr).map (·.block) ≠ some b) ∧ (∀ b, (wA : Option Addr).map (·.block) = some b → w.heap.size ≤ b) ∧ ((oA : Option Addr).map (·.block) ≠ some q8) ∧ ((oA : Option Addr).map (·.block) ≠ some q12) ∧ (∀ b, (tA : Option Addr).map (·.block) = some b → (oA : Option Addr).map (·.block) ≠ some b) ∧ (∀ b, (wA : Option Addr).map (·.block) = some b → (oA : Option Addr).map (·.block) ≠ some b) ∧ (∀ b, (oA : Option Addr).map (·.block) = some b → w.heap.size ≤ b) ∧ ((tA : Option Addr).map (·.block) ≠ some q8) ∧ ((tA : Option Addr).map (·.block) ≠ some q12) ∧ (∀ b, (oA : Option Addr).map (·.block) = some b → (tA : Option Addr).map (·.block) ≠ some b) ∧ (∀ b, (wA : Option Addr).map (·.block) = some b → (tA : Option Addr).map (·.block) ≠ some b) ∧ (∀ b, (tA : Option Addr).map (·.block) = some b → w.heap.size ≤ b) ∧ (SnG L D wd) ∧ (L.length = N) ∧ (D ≤ T) ∧ (T ≤ N) ∧ (k ≤ 60)) (fun a _ => 60 - (intOf (a.eval (.tmp 8))).toNat) (⟨0, [], 0, 0, 0, false, none, 0, (some ⟨q16, 0, none⟩), 0, (some ⟨q19, 0, none⟩), 0, p20.s, s0, s2, s3, s4, s5, s6, s7, s8, hB, h_q8, h_q12, o_of, o_tk, o_wz, d_wz_q8, d_wz_q12, m_of_wz, m_tk_wz, g_wz, d_of_q8, d_of_q12, m_tk_of, m_wz_of, g_of, d_tk_q8, d_tk_q12, m_of_tk, m_wz_tk, g_tk, (SnG.new hwd1.1 hwd1.2), rfl, (Nat.le_refl _), (Nat.le_refl _), (Nat.zero_le _)⟩) ?_
  intro a21 w24 hIv
  obtain ⟨k, L, N, D, T, ag, wA, wc, oA, oc, tA, tc, hIv⟩ := hIv
  have hs := hIv.1
  replace hIv := hIv.2
  have s0 := hIv.1
  replace hIv := hIv.2
  have s2 := hIv.1
  replace hIv := hIv.2
  have s3 := hIv.1
  replace hIv := hIv.2
  have s4 := hIv.1
  replace hIv := hIv.2
  have s5 := hIv.1
  replace hIv := hIv.2
  have s6 := hIv.1
  replace hIv := hIv.2
  have s7 := hIv.1
  replace hIv := hIv.2
  have s8 := hIv.1
  replace hIv := hIv.2
  have hB := hIv.1
  replace hIv := hIv.2
  have h_q8 := hIv.1
  replace hIv := hIv.2
  have h_q12 := hIv.1
  replace hIv := hIv.2
  have o_of := hIv.1
  replace hIv := hIv.2
  have o_tk := hIv.1
  replace hIv := hIv.2
  have o_wz := hIv.1
  replace hIv := hIv.2
  have d_wz_q8 := hIv.1
  replace hIv := hIv.2
  have d_wz_q12 := hIv.1
  replace hIv := hIv.2
  have m_of_wz := hIv.1
  replace hIv := hIv.2
  have m_tk_wz := hIv.1
  replace hIv := hIv.2
  have g_wz := hIv.1
  replace hIv := hIv.2
  have d_of_q8 := hIv.1
  replace hIv := hIv.2
  have d_of_q12 := hIv.1
  replace hIv := hIv.2
  have m_tk_of := hIv.1
  replace hIv := hIv.2
  have m_wz_of := hIv.1
  replace hIv := hIv.2
  have g_of := hIv.1
  replace hIv := hIv.2
  have d_tk_q8 := hIv.1
  replace hIv := hIv.2
  have d_tk_q12 := hIv.1
  replace hIv := hIv.2
  have m_of_tk := hIv.1
  replace hIv := hIv.2
  have m_wz_tk := hIv.1
  replace hIv := hIv.2
  have g_tk := hIv.1
  replace hIv := hIv.2
  have hS := hIv.1
  replace hIv := hIv.2
  have hN := hIv.1
  replace hIv := hIv.2
  have hDT := hIv.1
  replace hIv := hIv.2
  have hTL := hIv.1
  replace hIv := hIv.2
  have hk := hIv
  clear hIv
  have mu25 := s8
  have hSn := hS.n
  refine wp_seq_k fun K26 hK26 => ?_
  refine wp_seq_k fun K27 hK27 => ?_
  refine wp_region_lit ?_
  refine q_v hs rfl rfl rfl (g_move rfl s8 ?_)
  intro a22 p22
  refine q_v p22.s rfl rfl rfl (g_lss rfl p22.v rfl ?_)
  intro a23 p23
  refine wpList_nil ?_
  replace s0 := p23.k (p22.k s0 rfl) rfl
  replace s2 := p23.k (p22.k s2 rfl) rfl
  replace s3 := p23.k (p22.k s3 rfl) rfl
  replace s4 := p23.k (p22.k s4 rfl) rfl
  replace s5 := p23.k (p22.k s5 rfl) rfl
  replace s6 := p23.k (p22.k s6 rfl) rfl
  replace s7 := p23.k (p22.k s7 rfl) rfl
  replace s8 := p23.k (p22.k s8 rfl) rfl
  replace s38 := p23.v
  refine hK27 _ _ ?_
  clear hK27
  by_cases hc28 : ((k : Nat) : Int) < 60
  · replace s38 : a23.eval (.tmp 38) = .bool true := (s38).trans (congrArg Value.bool (decide_eq_true hc28))
    refine c_true s38 ?_
    refine wp_skip ?_
    refine hK26 _ _ ?_
    clear hK26
    refine wp_seq_k fun K29 hK29 => ?_
    refine wp_block ?_
    refine wp_seq_k fun K30 hK30 => ?_
    have jK30 : ∀ (a : Act) (wr : World) (L : List (List UInt8)) (N : Nat) (wA : Option Addr) (wc : Nat) (oA : Option Addr) (oc : Nat), (St 212 a) ∧ (a.eval (.tmp 0) = .slice A n c) ∧ (a.eval (.tmp 2) = .bool false) ∧ (a.eval (.tmp 3) = .pointer (some ⟨q8, 0, none⟩)) ∧ (a.eval (.tmp 4) = .bool true) ∧ (a.eval (.tmp 5) = .pointer (some ⟨q12, 0, none⟩)) ∧ (a.eval (.tmp 6) = .slice oA N oc) ∧ (a.eval (.tmp 7) = .slice tA T tc) ∧ (a.eval (.tmp 8) = .int .i64 ((k : Nat) : Int)) ∧ (a.eval (.tmp 38) = .bool true) ∧ (Below w.heap.size w wr) ∧ (wr.heap[q8]? = some (.cells #[.int .i64 ((L.length : Nat) : Int), .int .i64 wd, .slice wA ((wtL L D).length) wc, .int .i64 ((D : Nat) : Int)] 39 (0, 0))) ∧ (wr.heap[q12]? = some (.cells #[.int .i64 ((T : Nat) : Int), .bool false, .bool ag, .int .i64 ((T : Nat) : Int)] 25 (0, 0))) ∧ (wr.ownsRow w.heap.size 9 1 (.slice oA N oc) N (L.flatMap cS)) ∧ (wr.ownsRow w.heap.size 9 1 (.slice tA T tc) T ((L.take T).flatMap cS)) ∧ (wr.ownsRow w.heap.size 80 2 (.slice wA ((wtL L D).length) wc) ((wtL L D).length) ((wtL L D).flatMap cSent)) ∧ ((wA : Option Addr).map (·.block) ≠ some q8) ∧ ((wA : Option Addr).map (·.block) ≠ some q12) ∧ (∀ b, (oA : Option Addr).map (·.block) = some b → (wA : Option Addr).map (·.block) ≠ some b) ∧ (∀ b, (tA : Option Addr).map (·.block) = some b → (wA : Option Addr).map (·.block) ≠ some b) ∧ (∀ b, (wA : Option Addr).map (·.block) = some b → w.heap.size ≤ b) ∧ ((oA : Option Addr).map (·.block) ≠ some q8) ∧ ((oA : Option Addr).map (·.block) ≠ some q12) ∧ (∀ b, (tA : Option Addr).map (·.block) = some b → (oA : Option Addr).map (·.block) ≠ some b) ∧ (∀ b, (wA : Option Addr).map (·.block) = some b → (oA : Option Addr).map (·.block) ≠ some b) ∧ (∀ b, (oA : Option Addr).map (·.block) = some b → w.heap.size ≤ b) ∧ ((tA : Option Addr).map (·.block) ≠ some q8) ∧ ((tA : Option Addr).map (·.block) ≠ some q12) ∧ (∀ b, (oA : Option Addr).map (·.block) = some b → (tA : Option Addr).map (·.block) ≠ some b) ∧ (∀ b, (wA : Option Addr).map (·.block) = some b → (tA : Option Addr).map (·.block) ≠ some b) ∧ (∀ b, (tA : Option Addr).map (·.block) = some b → w.heap.size ≤ b) ∧ (SnG L D wd) ∧ (L.length = N) ∧ (T ≤ N) → K30 a wr := by
      rintro a24 w31 L N wA wc oA oc ⟨hs, s0, s2, s3, s4, s5, s6, s7, s8, s38, hB, h_q8, h_q12, o_of, o_tk, o_wz, d_wz_q8, d_wz_q12, m_of_wz, m_tk_wz, g_wz, d_of_q8, d_of_q12, m_tk_of, m_wz_of, g_of, d_tk_q8, d_tk_q12, m_of_tk, m_wz_tk, g_tk, hS, hN, hTL⟩
      have hSn := hS.n
      have hSw := hS.wn
      refine hK30 _ _ ?_
      clear hK30
      refine wp_seq_k fun K32 hK32 => ?_
      refine wp_region_lit ?_
      refine q_v hs rfl rfl rfl (g_loadB rfl s3 Try.isAgg39 Try.sizeOf39 rfl h_q8 ?_)
      intro a25 p25
      refine q_v p25.s rfl rfl rfl ?_
      refine g_call rfl rfl Try.call31 (arr1 p25.v) ?_
      refine (blocks_on _ hS rfl (Rd.of_own o_wz)).mono ?_
      rintro e w34 ⟨A33, c33, rfl, o_bl, hb33⟩
      refine ⟨_, rfl, ?_⟩
      have d_bl_q12 := own_ne_box o_bl (lt_of_block h_q12)
      have m_tk_bl := own_ne_row o_tk o_bl (Nat.le_refl _)
      have m_bl_tk := ne_row_symm m_tk_bl
      replace o_bl := own_base (base := w.heap.size) o_bl hB.size
      replace h_q8 := keep_below h_q8 hb33
      replace h_q12 := keep_below h_q12 hb33
      replace o_of := own_below o_of hb33
      replace o_tk := own_below o_tk hb33
      replace o_wz := own_below o_wz hb33
      replace hB := hB.trans (hb33.mono hB.size)
      clear hb33
      intro a26 p26
      refine q_v p26.s rfl rfl rfl (g_assign rfl p26.v ?_)
      intro a27 p27
      refine wpList_nil ?_
      have kc24 := (((Kps.nil a24).u p25).u p26).u p27
      replace s0 := kc24.k s0 rfl
      replace s2 := kc24.k s2 rfl
      replace s3 := kc24.k s3 rfl
      replace s4 := kc24.k s4 rfl
      replace s5 := kc24.k s5 rfl
      replace s6 := kc24.k s6 rfl
      replace s7 := kc24.k s7 rfl
      replace s8 := kc24.k s8 rfl
      replace s38 := kc24.k s38 rfl
      replace s11 := p27.v
      clear kc24
      refine hK32 _ _ ?_
      clear hK32
      refine wp_seq_k fun K35 hK35 => ?_
      refine wp_seq_k fun K36 hK36 => ?_
      refine wp_region_lit ?_
      refine q_v p27.s rfl rfl rfl (g_assign rfl rfl ?_)
      intro a28 p28
      have s12 : a28.eval (.tmp 12) = .int .i64 0 := p28.v
      refine wpList_nil ?_
      replace s0 := p28.k s0 rfl
      replace s2 := p28.k s2 rfl
      replace s3 := p28.k s3 rfl
      replace s4 := p28.k s4 rfl
      replace s5 := p28.k s5 rfl
      replace s6 := p28.k s6 rfl
      replace s7 := p28.k s7 rfl
      replace s8 := p28.k s8 rfl
      replace s38 := p28.k s38 rfl
      replace s11 := p28.k s11 rfl
      refine hK36 _ _ ?_
      clear hK36
      refine wp_block ?_
      have hbl := blk_len L D
      refine wp_loop (fun a wr => ∃ (i : Nat) (T1 : Nat) (ag1 : Bool) (tA1 : Option Addr) (tc1 : Nat), (St 212 a) ∧ (a.eval (.tmp 0) = .slice A n c) ∧ (a.eval (.tmp 2) = .bool false) ∧ (a.eval (.tmp 3) = .pointer (some ⟨q8, 0, none⟩)) ∧ (a.eval (.tmp 4) = .bool true) ∧ (a.eval (.tmp 5) = .pointer (some ⟨q12, 0, none⟩)) ∧ (a.eval (.tmp 6) = .slice oA N oc) ∧ (a.eval (.tmp 7) = .slice tA1 T1 tc1) ∧ (a.eval (.tmp 8) = .int .i64 ((k : Nat) : Int)) ∧ (a.eval (.tmp 11) = .slice A33 ((blocksL (wtL L D)).length) c33) ∧ (a.eval (.tmp 12) = .int .i64 ((i : Nat) : Int)) ∧ (a.eval (.tmp 38) = .bool true) ∧ (Below w.heap.size w wr) ∧ (wr.heap[q8]? = some (.cells #[.int .i64 ((L.length : Nat) : Int), .int .i64 wd, .slice wA ((wtL L D).length) wc, .int .i64 ((D : Nat) : Int)] 39 (0, 0))) ∧ (wr.heap[q12]? = some (.cells #[.int .i64 ((T1 : Nat) : Int), .bool false, .bool ag1, .int .i64 ((T1 : Nat) : Int)] 25 (0, 0))) ∧ (wr.ownsRow w.heap.size 9 1 (.slice oA N oc) N (L.flatMap cS)) ∧ (wr.ownsRow w.heap.size 9 1 (.slice tA1 T1 tc1) T1 ((L.take T1).flatMap cS)) ∧ (wr.ownsRow w.heap.size 80 2 (.slice wA ((wtL L D).length) wc) ((wtL L D).length) ((wtL L D).flatMap cSent)) ∧ (wr.ownsRow w.heap.size 9 1 (.slice A33 ((blocksL (wtL L D)).length) c33) ((blocksL (wtL L D)).length) ((blocksL (wtL L D)).flatMap cS)) ∧ ((tA1 : Option Addr).map (·.block) ≠ some q8) ∧ ((tA1 : Option Addr).map (·.block) ≠ some q12) ∧ (∀ b, (oA : Option Addr).map (·.block) = some b → (tA1 : Option Addr).map (·.block) ≠ some b) ∧ (∀ b, (tA1 : Option Addr).map (·.block) = some b → (oA : Option Addr).map (·.block) ≠ some b) ∧ (∀ b, (wA : Option Addr).map (·.block) = some b → (tA1 : Option Addr).map (·.block) ≠ some b) ∧ (∀ b, (tA1 : Option Addr).map (·.block) = some b → (wA : Option Addr).map (·.block) ≠ some b) ∧ (∀ b, (A33 : Option Addr).map (·.block) = some b → (tA1 : Option Addr).map (·.block) ≠ some b) ∧ (∀ b, (tA1 : Option Addr).map (·.block) = some b → (A33 : Option Addr).map (·.block) ≠ some b) ∧ (∀ b, (tA1 : Option Addr).map (·.block) = some b → w.heap.size ≤ b) ∧ (i ≤ (blocksL (wtL L D)).length) ∧ (D ≤ T1) ∧ (T1 ≤ N)) (fun a _ => (blocksL (wtL L D)).length - (intOf (a.eval (.tmp 12))).toNat) (⟨0, T, ag, tA, tc, p28.s, s0, s2, s3, s4, s5, s6, s7, s8, s11, s12, s38, hB, h_q8, h_q12, o_of, o_tk, o_wz, o_bl, d_tk_q8, d_tk_q12, m_of_tk, m_tk_of, m_wz_tk, m_tk_wz, m_bl_tk, m_tk_bl, g_tk, (Nat.zero_le _), hDT, hTL⟩) ?_
      intro a29 w38 hIv
      obtain ⟨i, T1, ag1, tA1, tc1, hIv⟩ := hIv
      have hs := hIv.1
      replace hIv := hIv.2
      have s0 := hIv.1
      replace hIv := hIv.2
      have s2 := hIv.1
      replace hIv := hIv.2
      have s3 := hIv.1
      replace hIv := hIv.2
      have s4 := hIv.1
      replace hIv := hIv.2
      have s5 := hIv.1
      replace hIv := hIv.2
      have s6 := hIv.1
      replace hIv := hIv.2
      have s7 := hIv.1
      replace hIv := hIv.2
      have s8 := hIv.1
      replace hIv := hIv.2
      have s11 := hIv.1
      replace hIv := hIv.2
      have s12 := hIv.1
      replace hIv := hIv.2
      have s38 := hIv.1
      replace hIv := hIv.2
      have hB := hIv.1
      replace hIv := hIv.2
      have h_q8 := hIv.1
      replace hIv := hIv.2
      have h_q12 := hIv.1
      replace hIv := hIv.2
      have o_of := hIv.1
      replace hIv := hIv.2
      have o_tk := hIv.1
      replace hIv := hIv.2
      have o_wz := hIv.1
      replace hIv := hIv.2
      have o_bl := hIv.1
      replace hIv := hIv.2
      have d_tk_q8 := hIv.1
      replace hIv := hIv.2
      have d_tk_q12 := hIv.1
      replace hIv := hIv.2
      have m_of_tk := hIv.1
      replace hIv := hIv.2
      have m_tk_of := hIv.1
      replace hIv := hIv.2
      have m_wz_tk := hIv.1
      replace hIv := hIv.2
      have m_tk_wz := hIv.1
      replace hIv := hIv.2
      have m_bl_tk := hIv.1
      replace hIv := hIv.2
      have m_tk_bl := hIv.1
      replace hIv := hIv.2
      have g_tk := hIv.1
      replace hIv := hIv.2
      have hi := hIv.1
      replace hIv := hIv.2
      have hDT1 := hIv.1
      replace hIv := hIv.2
      have hTL1 := hIv
      clear hIv
      have mu39 := s12
      refine wp_seq_k fun K40 hK40 => ?_
      refine wp_seq_k fun K41 hK41 => ?_
      refine wp_region_lit ?_
      refine q_v hs rfl rfl rfl (g_move rfl s12 ?_)
      intro a30 p30
      refine q_v p30.s rfl rfl rfl (g_move rfl (p30.k s11 rfl) ?_)
      intro a31 p31
      refine q_v p31.s rfl rfl rfl (g_len (e := _) rfl Try.underlying43 p31.v ?_)
      intro a32 p32
      refine q_v p32.s rfl rfl rfl (g_lss rfl (p32.k (p31.k p30.v rfl) rfl) p32.v ?_)
      intro a33 p33
      refine wpList_nil ?_
      have kc29 := ((((Kps.nil a29).u p30).u p31).u p32).u p33
      replace s0 := kc29.k s0 rfl
      replace s2 := kc29.k s2 rfl
      replace s3 := kc29.k s3 rfl
      replace s4 := kc29.k s4 rfl
      replace s5 := kc29.k s5 rfl
      replace s6 := kc29.k s6 rfl
      replace s7 := kc29.k s7 rfl
      replace s8 := kc29.k s8 rfl
      replace s38 := kc29.k s38 rfl
      replace s11 := kc29.k s11 rfl
      replace s12 := kc29.k s12 rfl
      replace s70 := p33.v
      clear kc29
      refine hK41 _ _ ?_
      clear hK41
      by_cases hc42 : ((i : Nat) : Int) < (((blocksL (wtL L D)).length : Nat) : Int)
      · replace s70 : a33.eval (.tmp 70) = .bool true := (s70).trans (congrArg Value.bool (decide_eq_true hc42))
        refine c_true s70 ?_
        refine wp_skip ?_
        refine hK40 _ _ ?_
        clear hK40
        refine wp_seq_k fun K43 hK43 => ?_
        refine wp_block ?_
        refine wp_seq_k fun K44 hK44 => ?_
        have hib : i < (blocksL (wtL L D)).length := by omega
        have hak1 := atN_le bs (k + i + 1)
        have hbN := bN_le (decide (45 < ((k : Nat) : Int)))
        refine wp_region_lit ?_
        refine q_v p33.s rfl rfl rfl (g_move rfl s0 ?_)
        intro a34 p34
        refine q_v p34.s rfl rfl rfl (g_move rfl (p34.k s8 rfl) ?_)
        intro a35 p35
        refine q_v p35.s rfl rfl rfl (g_move rfl (p35.k (p34.k s12 rfl) rfl) ?_)
        intro a36 p36
        refine q_v p36.s rfl rfl rfl (g_add (r := ((k : Nat) : Int) + ((i : Nat) : Int)) rfl (p36.k p35.v rfl) p36.v (by omega) (by omega) ?_)
        intro a37 p37
        refine q_v p37.s rfl rfl rfl (g_add (r := (((k : Nat) : Int) + ((i : Nat) : Int)) + 1) rfl p37.v rfl (by omega) (by omega) ?_)
        intro a38 p38
        refine q_v p38.s rfl rfl rfl ?_
        refine g_call rfl rfl Try.call28 (arr2 (p38.k (p37.k (p36.k (p35.k p34.v rfl) rfl) rfl) rfl) p38.v) ?_
        refine (at_nat hlen hnc hcm (hr_cc.below hB) (k + i + 1) (by omega)).mono ?_
        rintro e w' ⟨rfl, rfl⟩
        refine ⟨_, rfl, ?_⟩
        intro a39 p39
        refine q_v p39.s rfl rfl rfl (g_rem (N := atN bs (k + i + 1)) (M := 3) rfl p39.v rfl (by omega) rfl (by decide) (by decide) ?_)
        intro a40 p40
        refine q_v p40.s rfl rfl rfl (g_move rfl (p40.k (p39.k (p38.k (p37.k (p36.k (p35.k (p34.k s8 rfl) rfl) rfl) rfl) rfl) rfl) rfl) ?_)
        intro a41 p41
        refine q_v p41.s rfl rfl rfl (g_gtr rfl p41.v rfl ?_)
        intro a42 p42
        refine q_v p42.s rfl rfl rfl ?_
        refine g_call rfl rfl Try.call32 (arr1 p42.v) ?_
        refine (btoi_any _).mono ?_
        rintro e w' ⟨rfl, rfl⟩
        refine ⟨_, rfl, ?_⟩
        intro a43 p43
        refine q_v p43.s rfl rfl rfl (g_add (r := (((atN bs (k + i + 1)) % 3 : Nat) : Int) + ((bN (decide (45 < ((k : Nat) : Int))) : Nat) : Int)) rfl (p43.k (p42.k (p41.k p40.v rfl) rfl) rfl) p43.v (by omega) (by omega) ?_)
        intro a44 p44
        refine q_v p44.s rfl rfl rfl (g_assign rfl p44.v ?_)
        intro a45 p45
        refine wpList_nil ?_
        have kc33 := ((((((((((((Kps.nil a33).u p34).u p35).u p36).u p37).u p38).u p39).u p40).u p41).u p42).u p43).u p44).u p45
        replace s0 := kc33.k s0 rfl
        replace s2 := kc33.k s2 rfl
        replace s3 := kc33.k s3 rfl
        replace s4 := kc33.k s4 rfl
        replace s5 := kc33.k s5 rfl
        replace s6 := kc33.k s6 rfl
        replace s7 := kc33.k s7 rfl
        replace s8 := kc33.k s8 rfl
        replace s38 := kc33.k s38 rfl
        replace s11 := kc33.k s11 rfl
        replace s12 := kc33.k s12 rfl
        replace s70 := kc33.k s70 rfl
        replace s13 := p45.v
        clear kc33
        refine hK44 _ _ ?_
        clear hK44
        refine wp_block ?_
        refine wp_loop (fun a wr => ∃ (m : Nat) (T2 : Nat) (ag2 : Bool) (tA2 : Option Addr) (tc2 : Nat), (St 212 a) ∧ (a.eval (.tmp 0) = .slice A n c) ∧ (a.eval (.tmp 2) = .bool false) ∧ (a.eval (.tmp 3) = .pointer (some ⟨q8, 0, none⟩)) ∧ (a.eval (.tmp 4) = .bool true) ∧ (a.eval (.tmp 5) = .pointer (some ⟨q12, 0, none⟩)) ∧ (a.eval (.tmp 6) = .slice oA N oc) ∧ (a.eval (.tmp 7) = .slice tA2 T2 tc2) ∧ (a.eval (.tmp 8) = .int .i64 ((k : Nat) : Int)) ∧ (a.eval (.tmp 11) = .slice A33 ((blocksL (wtL L D)).length) c33) ∧ (a.eval (.tmp 12) = .int .i64 ((i : Nat) : Int)) ∧ (a.eval (.tmp 13) = .int .i64 ((m : Nat) : Int)) ∧ (a.eval (.tmp 38) = .bool true) ∧ (a.eval (.tmp 70) = .bool true) ∧ (Below w.heap.size w wr) ∧ (wr.heap[q8]? = some (.cells #[.int .i64 ((L.length : Nat) : Int), .int .i64 wd, .slice wA ((wtL L D).length) wc, .int .i64 ((D : Nat) : Int)] 39 (0, 0))) ∧ (wr.heap[q12]? = some (.cells #[.int .i64 ((T2 : Nat) : Int), .bool false, .bool ag2, .int .i64 ((T2 : Nat) : Int)] 25 (0, 0))) ∧ (wr.ownsRow w.heap.size 9 1 (.slice oA N oc) N (L.flatMap cS)) ∧ (wr.ownsRow w.heap.size 9 1 (.slice tA2 T2 tc2) T2 ((L.take T2).flatMap cS)) ∧ (wr.ownsRow w.heap.size 80 2 (.slice wA ((wtL L D).length) wc) ((wtL L D).length) ((wtL L D).flatMap cSent)) ∧ (wr.ownsRow w.heap.size 9 1 (.slice A33 ((blocksL (wtL L D)).length) c33) ((blocksL (wtL L D)).length) ((blocksL (wtL L D)).flatMap cS)) ∧ ((tA2 : Option Addr).map (·.block) ≠ some q8) ∧ ((tA2 : Option Addr).map (·.block) ≠ some q12) ∧ (∀ b, (oA : Option Addr).map (·.block) = some b → (tA2 : Option Addr).map (·.block) ≠ some b) ∧ (∀ b, (tA2 : Option Addr).map (·.block) = some b → (oA : Option Addr).map (·.block) ≠ some b) ∧ (∀ b, (wA : Option Addr).map (·.block) = some b → (tA2 : Option Addr).map (·.block) ≠ some b) ∧ (∀ b, (tA2 : Option Addr).map (·.block) = some b → (wA : Option Addr).map (·.block) ≠ some b) ∧ (∀ b, (A33 : Option Addr).map (·.block) = some b → (tA2 : Option Addr).map (·.block) ≠ some b) ∧ (∀ b, (tA2 : Option Addr).map (·.block) = some b → (A33 : Option Addr).map (·.block) ≠ some b) ∧ (∀ b, (tA2 : Option Addr).map (·.block) = some b → w.heap.size ≤ b) ∧ (D ≤ T2) ∧ (T2 ≤ N) ∧ (m ≤ 3)) (fun a _ => (intOf (a.eval (.tmp 13))).toNat) (⟨atN bs (k + i + 1) % 3 + bN (decide (45 < ((k : Nat) : Int))), T1, ag1, tA1, tc1, p45.s, s0, s2, s3, s4, s5, s6, s7, s8, s11, s12, s13, s38, s70, hB, h_q8, h_q12, o_of, o_tk, o_wz, o_bl, d_tk_q8, d_tk_q12, m_of_tk, m_tk_of, m_wz_tk, m_tk_wz, m_bl_tk, m_tk_bl, g_tk, hDT1, hTL1, (by omega)⟩) ?_
        intro a46 w46 hIv
        obtain ⟨m, T2, ag2, tA2, tc2, hIv⟩ := hIv
        have hs := hIv.1
        replace hIv := hIv.2
        have s0 := hIv.1
        replace hIv := hIv.2
        have s2 := hIv.1
        replace hIv := hIv.2
        have s3 := hIv.1
        replace hIv := hIv.2
        have s4 := hIv.1
        replace hIv := hIv.2
        have s5 := hIv.1
        replace hIv := hIv.2
        have s6 := hIv.1
        replace hIv := hIv.2
        have s7 := hIv.1
        replace hIv := hIv.2
        have s8 := hIv.1
        replace hIv := hIv.2
        have s11 := hIv.1
        replace hIv := hIv.2
        have s12 := hIv.1
        replace hIv := hIv.2
        have s13 := hIv.1
        replace hIv := hIv.2
        have s38 := hIv.1
        replace hIv := hIv.2
        have s70 := hIv.1
        replace hIv := hIv.2
        have hB := hIv.1
        replace hIv := hIv.2
        have h_q8 := hIv.1
        replace hIv := hIv.2
        have h_q12 := hIv.1
        replace hIv := hIv.2
        have o_of := hIv.1
        replace hIv := hIv.2
        have o_tk := hIv.1
        replace hIv := hIv.2
        have o_wz := hIv.1
        replace hIv := hIv.2
        have o_bl := hIv.1
        replace hIv := hIv.2
        have d_tk_q8 := hIv.1
        replace hIv := hIv.2
        have d_tk_q12 := hIv.1
        replace hIv := hIv.2
        have m_of_tk := hIv.1
        replace hIv := hIv.2
        have m_tk_of := hIv.1
        replace hIv := hIv.2
        have m_wz_tk := hIv.1
        replace hIv := hIv.2
        have m_tk_wz := hIv.1
        replace hIv := hIv.2
        have m_bl_tk := hIv.1
        replace hIv := hIv.2
        have m_tk_bl := hIv.1
        replace hIv := hIv.2
        have g_tk := hIv.1
        replace hIv := hIv.2
        have hDT2 := hIv.1
        replace hIv := hIv.2
        have hTL2 := hIv.1
        replace hIv := hIv.2
        have hm3 := hIv
        clear hIv
        have mu47 := s13
        refine wp_seq_k fun K48 hK48 => ?_
        refine wp_seq_k fun K49 hK49 => ?_
        refine wp_region_lit ?_
        refine q_v hs rfl rfl rfl (g_move rfl s13 ?_)
        intro a47 p47
        refine q_v p47.s rfl rfl rfl (g_gtr rfl p47.v rfl ?_)
        intro a48 p48
        refine wpList_nil ?_
        replace s0 := p48.k (p47.k s0 rfl) rfl
        replace s2 := p48.k (p47.k s2 rfl) rfl
        replace s3 := p48.k (p47.k s3 rfl) rfl
        replace s4 := p48.k (p47.k s4 rfl) rfl
        replace s5 := p48.k (p47.k s5 rfl) rfl
        replace s6 := p48.k (p47.k s6 rfl) rfl
        replace s7 := p48.k (p47.k s7 rfl) rfl
        replace s8 := p48.k (p47.k s8 rfl) rfl
        replace s38 := p48.k (p47.k s38 rfl) rfl
        replace s11 := p48.k (p47.k s11 rfl) rfl
        replace s12 := p48.k (p47.k s12 rfl) rfl
        replace s70 := p48.k (p47.k s70 rfl) rfl
        replace s13 := p48.k (p47.k s13 rfl) rfl
        replace s85 := p48.v
        refine hK49 _ _ ?_
        clear hK49
        by_cases hc50 : 0 < ((m : Nat) : Int)
        · replace s85 : a48.eval (.tmp 85) = .bool true := (s85).trans (congrArg Value.bool (decide_eq_true hc50))
          refine c_true s85 ?_
          refine wp_skip ?_
          refine hK48 _ _ ?_
          clear hK48
          refine wp_seq_k fun K51 hK51 => ?_
          refine wp_block ?_
          refine wp_seq_k fun K52 hK52 => ?_
          have hib : i < (blocksL (wtL L D)).length := by omega
          have hDi : D + i < L.length := by omega
          obtain ⟨T3, ag3, t3, d3, hT31, hT32, hT33, ht1, ht2, hTk⟩ := take_ex (T := T2) (ag := ag2) hDi (blocks_get hib hDi) (by omega) (by omega) (by omega) (by omega) hS.all
          have hs := p48.s
          obtain ⟨b53, o54, hA55, hl_hc56, hc56⟩ := Rd.get cS_len (Rd.of_own o_bl) rfl (i := i) (by omega)
          refine wp_drawn (n := 212) [8, 9, 12, 13] [11] [] (fun k_ v_ wx => match k_ with | 0 => v_ = .agg #[.int .i64 ((T2 : Nat) : Int), .bool false, .bool ag2, .int .i64 ((T2 : Nat) : Int)] | 1 => v_ = .slice A33 ((blocksL (wtL L D)).length) c33 | 2 => v_ = .int .i64 ((i : Nat) : Int) | 3 => v_ = .pointer (some ⟨b53, o54 + i * 1, none⟩) | 4 => v_ = .string ⟨((blocksL (wtL L D))[i]).toArray⟩ | 5 => v_ = .tuple #[.agg #[.int .i64 ((T3 : Nat) : Int), .bool false, .bool ag3, .int .i64 ((T3 : Nat) : Int)], .string ⟨(d3).toArray⟩, .bool t3] | 6 => v_ = .tuple #[.agg #[.int .i64 ((T3 : Nat) : Int), .bool false, .bool ag3, .int .i64 ((T3 : Nat) : Int)], .string ⟨(d3).toArray⟩, .bool t3] | 7 => v_ = .agg #[.int .i64 ((T3 : Nat) : Int), .bool false, .bool ag3, .int .i64 ((T3 : Nat) : Int)] | 8 => v_ = .string ⟨(d3).toArray⟩ | 9 => v_ = .bool t3 | 10 => ∃ q58, v_ = .pointer (some ⟨q58, 0, none⟩) ∧ w46.heap.size ≤ q58 ∧ wx.heap[q58]? = some (.cells #[.int .i64 0, .bool false, .bool false, .int .i64 0] 25 (0, 0)) | 12 => v_ = .string ⟨(d3).toArray⟩ | 13 => v_ = .bool t3 | _ => True) (by kernel_rfl) (by kernel_rfl) (by kernel_rfl) (by kernel_rfl) hs.size ?_ ?_ ?_
          · intro i v wa wb hb hr
            rcases i with _ | _ | _ | _ | _ | _ | _ | _ | _ | _ | _ | _ | _ | _ | i
            · exact hr
            · exact hr
            · exact hr
            · exact hr
            · exact hr
            · exact hr
            · exact hr
            · exact hr
            · exact hr
            · exact hr
            · obtain ⟨q58, hr, hg, hh⟩ := hr; exact ⟨q58, hr, hg, keep_below hh hb⟩
            · trivial
            · exact hr
            · exact hr
            · trivial
          · refine d_step rfl rfl ?_ (d_step rfl rfl ?_ (d_step rfl rfl ?_ (d_step rfl rfl ?_ (d_step rfl rfl ?_ (d_step rfl rfl ?_ (d_step rfl rfl ?_ (d_step rfl rfl ?_ (d_late rfl rfl ?_ (d_late rfl rfl ?_ (d_step rfl rfl ?_ (d_chain rfl (d_late rfl rfl ?_ (d_late rfl rfl ?_ (d_nil))))))))))))))
            · intro xv_ wx ρ hρ hwx hd K hK
              have e5 : ρ (.tmp 5) = .pointer (some ⟨q12, 0, none⟩) := (hρ.inn 5 rfl).trans s5
              have h_q12 := keep_below h_q12 hwx
              refine g_loadB rfl e5 Try.isAgg25 Try.sizeOf25 rfl h_q12 ?_
              exact hK _ _ (Below.refl _ _) rfl
            · intro xv_ wx ρ hρ hwx hd K hK
              have e11 : ρ (.tmp 11) = .slice A33 ((blocksL (wtL L D)).length) c33 := (hρ.inn 11 rfl).trans s11
              refine g_move rfl e11 ?_
              exact hK _ _ (Below.refl _ _) rfl
            · intro xv_ wx ρ hρ hwx hd K hK
              have e12 : ρ (.tmp 12) = .int .i64 ((i : Nat) : Int) := (hρ.inn 12 rfl).trans s12
              refine g_move rfl e12 ?_
              exact hK _ _ (Below.refl _ _) rfl
            · intro xv_ wx ρ hρ hwx hd K hK
              have e90 := (out2 hρ hs 1 90 rfl rfl rfl).trans (hd 1 rfl)
              have e91 := (out2 hρ hs 2 91 rfl rfl rfl).trans (hd 2 rfl)
              refine g_index (r := o54 + i * 1) (k := i) rfl (e90.trans (slice_at hA55)) e91 Try.underlying43 (fun w => Try.sizeOf9 w) (by omega) rfl ?_
              exact hK _ _ (Below.refl _ _) rfl
            · intro xv_ wx ρ hρ hwx hd K hK
              have e92 := (out2 hρ hs 3 92 rfl rfl rfl).trans (hd 3 rfl)
              have hc56 := elem_below hc56 hwx hl_hc56
              refine g_load rfl e92 Try.isAgg9 (by first | exact hc56 0 _ (by decide) rfl | (rw [Nat.add_assoc]; exact hc56 0 _ (by decide) rfl)) ?_
              exact hK _ _ (Below.refl _ _) rfl
            · intro xv_ wx ρ hρ hwx hd K hK
              have e89 := (out2 hρ hs 0 89 rfl rfl rfl).trans (hd 0 rfl)
              have e93 := (out2 hρ hs 4 93 rfl rfl rfl).trans (hd 4 rfl)
              refine g_call rfl (hρ.fn _) Try.call33 (arr2 e89 e93) ?_
              refine (hTk _).mono ?_
              rintro e wy ⟨rfl, hb57⟩
              exact ⟨_, rfl, hK _ _ hb57 rfl⟩
            · intro xv_ wx ρ hρ hwx hd K hK
              have e94 := (out2 hρ hs 5 94 rfl rfl rfl).trans (hd 5 rfl)
              refine g_move rfl e94 ?_
              exact hK _ _ (Below.refl _ _) rfl
            · intro xv_ wx ρ hρ hwx hd K hK
              have e88 := (out2 hρ hs 6 88 rfl rfl rfl).trans (hd 6 rfl)
              refine g_extract rfl e88 rfl ?_
              exact hK _ _ (Below.refl _ _) rfl
            · intro xv_ wx ρ hρ hwx hd
              have e88 := (out2 hρ hs 6 88 rfl rfl rfl).trans (hd 6 rfl rfl)
              exact ⟨_, fun w' => l_extract rfl e88 rfl, rfl⟩
            · intro xv_ wx ρ hρ hwx hd
              have e88 := (out2 hρ hs 6 88 rfl rfl rfl).trans (hd 6 rfl rfl)
              exact ⟨_, fun w' => l_extract rfl e88 rfl, rfl⟩
            · intro xv_ wx ρ hρ hwx hd K hK
              refine g_alloc rfl Try.zeroValue25 rfl ?_
              intro q w' N
              exact hK _ _ N.below ⟨q, rfl, Nat.le_trans hwx.size N.lo, N.here⟩
            · intro xv_ wx ρ hρ hwx hd
              have e96 := (out2 hρ hs 8 96 rfl rfl rfl).trans (hd 8 rfl rfl)
              exact ⟨_, fun w' => l_assign rfl e96, rfl⟩
            · intro xv_ wx ρ hρ hwx hd
              have e97 := (out2 hρ hs 9 97 rfl rfl rfl).trans (hd 9 rfl rfl)
              exact ⟨_, fun w' => l_assign rfl e97, rfl⟩
          · intro x0_ w59 hb_w59 hr0
            obtain ⟨q58, r10, g0_q58, h_q58⟩ : ∃ q58, x0_ 10 = .pointer (some ⟨q58, 0, none⟩) ∧ w46.heap.size ≤ q58 ∧ w59.heap[q58]? = some (.cells #[.int .i64 0, .bool false, .bool false, .int .i64 0] 25 (0, 0)) := hr0 10 (by decide) rfl rfl
            have n_q8_q58 : NeB q8 q58 := ⟨fun e => by have := lt_of_block h_q8; omega⟩
            have n_q58_q8 := n_q8_q58.symm
            have n_q12_q58 : NeB q12 q58 := ⟨fun e => by have := lt_of_block h_q12; omega⟩
            have n_q58_q12 := n_q12_q58.symm
            have d_of_q58 := own_ne o_of (.inr g0_q58)
            have d_tk_q58 := own_ne o_tk (.inr g0_q58)
            have d_wz_q58 := own_ne o_wz (.inr g0_q58)
            have d_bl_q58 := own_ne o_bl (.inr g0_q58)
            have g_q58 : GeB w.heap.size q58 := ⟨Nat.le_trans hB.size g0_q58⟩
            clear g0_q58
            replace h_q8 := keep_below h_q8 hb_w59
            replace h_q12 := keep_below h_q12 hb_w59
            replace o_of := own_below o_of hb_w59
            replace o_tk := own_below o_tk hb_w59
            replace o_wz := own_below o_wz hb_w59
            replace o_bl := own_below o_bl hb_w59
            replace hB := hB.trans (hb_w59.mono hB.size)
            clear hb_w59
            intro op_ ho_ xv_ ρ hρ qx_ ql_ qk_
            obtain rfl := Option.some.inj ho_
            clear ho_
            have e14 : ρ (.tmp 14) = .pointer (some ⟨q58, 0, none⟩) := (hρ.out 10 14 rfl (by rw [hs.size]; decide) rfl).trans ((qx_ 10 (by decide) rfl rfl).trans r10)
            have e95 : ρ (.tmp 95) = .agg #[.int .i64 ((T3 : Nat) : Int), .bool false, .bool ag3, .int .i64 ((T3 : Nat) : Int)] := (hρ.out 7 95 rfl (by rw [hs.size]; decide) rfl).trans ((qx_ 7 (by decide) rfl rfl).trans (hr0 7 (by decide) rfl rfl))
            refine g_storeB rfl e14 e95 Try.sizeOf25 rfl rfl h_q58 rfl ?_
            intro w60 W_w60
            replace h_q8 := keep_wrote h_q8 W_w60 n_q58_q8
            replace h_q12 := keep_wrote h_q12 W_w60 n_q58_q12
            replace h_q58 := W_w60.here
            replace o_of := own_wrote o_of W_w60 d_of_q58
            replace o_tk := own_wrote o_tk W_w60 d_tk_q58
            replace o_wz := own_wrote o_wz W_w60 d_wz_q58
            replace o_bl := own_wrote o_bl W_w60 d_bl_q58
            replace hB := below_wrote hB hB.size W_w60 g_q58.le
            clear W_w60
            clear e14 e95
            clear hρ qx_ ql_ qk_
            intro xv_ a49 hρ hsz hdf qx_ ql_ qk_ qlk_
            replace s0 : a49.eval (.tmp 0) = .slice A n c := (hρ.inn 0 rfl).trans s0
            replace s2 : a49.eval (.tmp 2) = .bool false := (hρ.inn 2 rfl).trans s2
            replace s3 : a49.eval (.tmp 3) = .pointer (some ⟨q8, 0, none⟩) := (hρ.inn 3 rfl).trans s3
            replace s4 : a49.eval (.tmp 4) = .bool true := (hρ.inn 4 rfl).trans s4
            replace s5 : a49.eval (.tmp 5) = .pointer (some ⟨q12, 0, none⟩) := (hρ.inn 5 rfl).trans s5
            replace s6 : a49.eval (.tmp 6) = .slice oA N oc := (hρ.inn 6 rfl).trans s6
            replace s7 : a49.eval (.tmp 7) = .slice tA2 T2 tc2 := (hρ.inn 7 rfl).trans s7
            replace s8 : a49.eval (.tmp 8) = .int .i64 ((k : Nat) : Int) := (hρ.inn 8 rfl).trans s8
            replace s11 : a49.eval (.tmp 11) = .slice A33 ((blocksL (wtL L D)).length) c33 := (hρ.inn 11 rfl).trans s11
            replace s12 : a49.eval (.tmp 12) = .int .i64 ((i : Nat) : Int) := (hρ.inn 12 rfl).trans s12
            replace s13 : a49.eval (.tmp 13) = .int .i64 ((m : Nat) : Int) := (hρ.inn 13 rfl).trans s13
            have s14 : a49.eval (.tmp 14) = .pointer (some ⟨q58, 0, none⟩) := (hρ.out 10 14 rfl (by rw [hs.size]; decide)).trans ((qx_ 10 (by decide) rfl rfl).trans r10)
            have s15 : a49.eval (.tmp 15) = .string ⟨(d3).toArray⟩ := (hρ.out 12 15 rfl (by rw [hs.size]; decide)).trans (ql_ 12 (by decide) rfl)
            have s16 : a49.eval (.tmp 16) = .bool t3 := (hρ.out 13 16 rfl (by rw [hs.size]; decide)).trans (ql_ 13 (by decide) rfl)
            replace s38 : a49.eval (.tmp 38) = .bool true := (hρ.inn 38 rfl).trans s38
            replace s70 : a49.eval (.tmp 70) = .bool true := (hρ.inn 70 rfl).trans s70
            replace s85 : a49.eval (.tmp 85) = .bool true := (hρ.inn 85 rfl).trans s85
            replace hs : St 212 a49 := ⟨hsz.trans hs.size, hdf.trans hs.nodef⟩
            clear hρ hsz hdf qx_ ql_ qk_ qlk_
            refine hK52 _ _ ?_
            clear hK52
            refine wp_seq_k fun K61 hK61 => ?_
            refine wp_region_lit ?_
            refine q_v hs rfl rfl rfl (g_loadB rfl s14 Try.isAgg25 Try.sizeOf25 rfl h_q58 ?_)
            intro a50 p50
            refine q_eff rfl rfl ?_
            refine g_storeB rfl (p50.k s5 rfl) p50.v Try.sizeOf25 rfl rfl h_q12 rfl ?_
            intro w62 W_w62
            replace h_q8 := keep_wrote h_q8 W_w62 n_q12_q8
            replace h_q12 := W_w62.here
            replace o_of := own_wrote o_of W_w62 d_of_q12
            replace o_tk := own_wrote o_tk W_w62 d_tk_q12
            replace o_wz := own_wrote o_wz W_w62 d_wz_q12
            replace o_bl := own_wrote o_bl W_w62 d_bl_q12
            replace hB := below_wrote hB hB.size W_w62 g_q12.le
            clear W_w62
            refine wpList_nil ?_
            replace s0 := p50.k s0 rfl
            replace s2 := p50.k s2 rfl
            replace s3 := p50.k s3 rfl
            replace s4 := p50.k s4 rfl
            replace s5 := p50.k s5 rfl
            replace s6 := p50.k s6 rfl
            replace s7 := p50.k s7 rfl
            replace s8 := p50.k s8 rfl
            replace s11 := p50.k s11 rfl
            replace s12 := p50.k s12 rfl
            replace s13 := p50.k s13 rfl
            replace s14 := p50.k s14 rfl
            replace s15 := p50.k s15 rfl
            replace s16 := p50.k s16 rfl
            replace s38 := p50.k s38 rfl
            replace s70 := p50.k s70 rfl
            replace s85 := p50.k s85 rfl
            refine hK61 _ _ ?_
            clear hK61
            refine wp_seq_k fun K63 hK63 => ?_
            refine wp_region_lit ?_
            refine q_v p50.s rfl rfl rfl (g_move rfl s16 ?_)
            intro a51 p51
            refine wpList_nil ?_
            replace s0 := p51.k s0 rfl
            replace s2 := p51.k s2 rfl
            replace s3 := p51.k s3 rfl
            replace s4 := p51.k s4 rfl
            replace s5 := p51.k s5 rfl
            replace s6 := p51.k s6 rfl
            replace s7 := p51.k s7 rfl
            replace s8 := p51.k s8 rfl
            replace s11 := p51.k s11 rfl
            replace s12 := p51.k s12 rfl
            replace s13 := p51.k s13 rfl
            replace s14 := p51.k s14 rfl
            replace s15 := p51.k s15 rfl
            replace s16 := p51.k s16 rfl
            replace s38 := p51.k s38 rfl
            replace s70 := p51.k s70 rfl
            replace s85 := p51.k s85 rfl
            replace s99 := p51.v
            refine hK63 _ _ ?_
            clear hK63
            cases ht3 : t3
            · replace s16 : a51.eval (.tmp 16) = .bool false := (s16).trans (congrArg Value.bool ht3)
              replace s99 : a51.eval (.tmp 99) = .bool false := (s99).trans (congrArg Value.bool ht3)
              refine c_false s99 ?_
              refine wp_skip ?_
              refine hK51 _ _ ?_
              clear hK51
              refine wp_region_lit ?_
              refine q_v p51.s rfl rfl rfl (g_move rfl s13 ?_)
              intro a52 p52
              refine q_v p52.s rfl rfl rfl (g_sub (r := ((m - 1 : Nat) : Int)) rfl p52.v rfl (by omega) (by omega) ?_)
              intro a53 p53
              refine q_v p53.s rfl rfl rfl (g_assign rfl p53.v ?_)
              intro a54 p54
              refine wpList_nil ?_
              have kc51 := (((Kps.nil a51).u p52).u p53).u p54
              replace s0 := kc51.k s0 rfl
              replace s2 := kc51.k s2 rfl
              replace s3 := kc51.k s3 rfl
              replace s4 := kc51.k s4 rfl
              replace s5 := kc51.k s5 rfl
              replace s6 := kc51.k s6 rfl
              replace s7 := kc51.k s7 rfl
              replace s8 := kc51.k s8 rfl
              replace s11 := kc51.k s11 rfl
              replace s12 := kc51.k s12 rfl
              replace s13 := p54.v
              replace s14 := kc51.k s14 rfl
              replace s15 := kc51.k s15 rfl
              replace s16 := kc51.k s16 rfl
              replace s38 := kc51.k s38 rfl
              replace s70 := kc51.k s70 rfl
              replace s85 := kc51.k s85 rfl
              replace s99 := kc51.k s99 rfl
              clear kc51
              have hTe := ht2 ht3
              subst hTe
              refine show _ ∧ _ from ⟨⟨m - 1, T2, ag3, _, _, p54.s, s0, s2, s3, s4, s5, s6, s7, s8, s11, s12, s13, s38, s70, hB, h_q8, h_q12, o_of, o_tk, o_wz, o_bl, d_tk_q8, d_tk_q12, m_of_tk, m_tk_of, m_wz_tk, m_tk_wz, m_bl_tk, m_tk_bl, g_tk, (by omega), (by omega), (by omega)⟩, ?_⟩
              show (intOf (a54.eval (.tmp 13))).toNat < (intOf (a46.eval (.tmp 13))).toNat
              rw [s13, mu47]
              simp only [intOf]
              omega
            replace s16 : a51.eval (.tmp 16) = .bool true := (s16).trans (congrArg Value.bool ht3)
            replace s99 : a51.eval (.tmp 99) = .bool true := (s99).trans (congrArg Value.bool ht3)
            refine c_true s99 ?_
            obtain ⟨hTe, hTa⟩ := ht1 ht3
            subst hTe
            refine wp_region_lit ?_
            refine q_v p51.s rfl rfl rfl (g_move rfl s7 ?_)
            intro a52 p52
            refine q_v p52.s rfl rfl rfl (g_move rfl (p52.k s15 rfl) ?_)
            intro a53 p53
            refine q_v p53.s rfl rfl rfl ?_
            refine g_bslice1 (cs := #[.string ⟨(d3).toArray⟩]) rfl Try.underlying43 Try.sizeOf9 Try.zeroValue9 p53.v (by kernel_rfl) rfl (by decide) ?_
            intro q64 w65 N_q64
            replace h_q8 := keep_below h_q8 N_q64.below
            replace h_q12 := keep_below h_q12 N_q64.below
            replace o_of := own_below o_of N_q64.below
            replace o_tk := own_below o_tk N_q64.below
            replace o_wz := own_below o_wz N_q64.below
            replace o_bl := own_below o_bl N_q64.below
            replace hB := below_new hB hB.size N_q64
            have h_q64 := N_q64.here
            clear N_q64
            intro a54 p54
            refine q_v p54.s rfl rfl rfl ?_
            refine g_append (n' := T2 + 1) (ys := ((L.take T2) ++ [d3]).flatMap cS) w.heap.size (.string ⟨#[]⟩) 1 16 rfl (p54.k (p53.k p52.v rfl) rfl) p54.v Try.underlying43 infoStrB rfl (by decide) o_tk (fun h => by cases h) (rd_box (xs := ([d3]).flatMap cS) h_q64 rfl rfl) (flatS_one _) (by omega) hB.size (by decide) (by omega) (by first | rfl | simp [List.flatMap_append] | (simp [List.flatMap_append, cS]; done)) ?_
            intro A_r66 c_r66 w67 P_r66
            have d_r66_q8 := P_r66.ne d_tk_q8 (lt_of_block h_q8)
            have d_r66_q12 := P_r66.ne d_tk_q12 (lt_of_block h_q12)
            have m_of_r66 := P_r66.row m_of_tk o_of
            have m_r66_of := ne_row_symm m_of_r66
            have m_wz_r66 := P_r66.row m_wz_tk o_wz
            have m_r66_wz := ne_row_symm m_wz_r66
            have m_bl_r66 := P_r66.row m_bl_tk o_bl
            have m_r66_bl := ne_row_symm m_bl_r66
            have g_r66 := P_r66.ge g_tk hB.size
            replace h_q8 := keep_grown h_q8 P_r66.grown d_tk_q8
            replace h_q12 := keep_grown h_q12 P_r66.grown d_tk_q12
            replace o_of := own_grown o_of P_r66.grown m_of_tk
            replace o_wz := own_grown o_wz P_r66.grown m_wz_tk
            replace o_bl := own_grown o_bl P_r66.grown m_bl_tk
            replace hB := below_grown hB hB.size P_r66.grown g_tk
            have o_r66 := P_r66.own
            clear P_r66
            intro a55 p55
            refine q_v p55.s rfl rfl rfl (g_assign rfl p55.v ?_)
            intro a56 p56
            refine wpList_nil ?_
            have kc51 := (((((Kps.nil a51).u p52).u p53).u p54).u p55).u p56
            replace s0 := kc51.k s0 rfl
            replace s2 := kc51.k s2 rfl
            replace s3 := kc51.k s3 rfl
            replace s4 := kc51.k s4 rfl
            replace s5 := kc51.k s5 rfl
            replace s6 := kc51.k s6 rfl
            replace s7 := p56.v
            replace s8 := kc51.k s8 rfl
            replace s11 := kc51.k s11 rfl
            replace s12 := kc51.k s12 rfl
            replace s13 := kc51.k s13 rfl
            replace s14 := kc51.k s14 rfl
            replace s15 := kc51.k s15 rfl
            replace s16 := kc51.k s16 rfl
            replace s38 := kc51.k s38 rfl
            replace s70 := kc51.k s70 rfl
            replace s85 := kc51.k s85 rfl
            replace s99 := kc51.k s99 rfl
            clear kc51
            refine hK51 _ _ ?_
            clear hK51
            refine wp_region_lit ?_
            refine q_v p56.s rfl rfl rfl (g_move rfl s13 ?_)
            intro a57 p57
            refine q_v p57.s rfl rfl rfl (g_sub (r := ((m - 1 : Nat) : Int)) rfl p57.v rfl (by omega) (by omega) ?_)
            intro a58 p58
            refine q_v p58.s rfl rfl rfl (g_assign rfl p58.v ?_)
            intro a59 p59
            refine wpList_nil ?_
            have kc56 := (((Kps.nil a56).u p57).u p58).u p59
            replace s0 := kc56.k s0 rfl
            replace s2 := kc56.k s2 rfl
            replace s3 := kc56.k s3 rfl
            replace s4 := kc56.k s4 rfl
            replace s5 := kc56.k s5 rfl
            replace s6 := kc56.k s6 rfl
            replace s7 := kc56.k s7 rfl
            replace s8 := kc56.k s8 rfl
            replace s11 := kc56.k s11 rfl
            replace s12 := kc56.k s12 rfl
            replace s13 := p59.v
            replace s14 := kc56.k s14 rfl
            replace s15 := kc56.k s15 rfl
            replace s16 := kc56.k s16 rfl
            replace s38 := kc56.k s38 rfl
            replace s70 := kc56.k s70 rfl
            replace s85 := kc56.k s85 rfl
            replace s99 := kc56.k s99 rfl
            clear kc56
            rw [hTa] at o_r66
            have o_tk := o_r66
            have g_tk := g_r66
            have d_tk_q8 := d_r66_q8
            have d_tk_q12 := d_r66_q12
            have m_of_tk := m_of_r66
            have m_tk_of := m_r66_of
            have m_wz_tk := m_wz_r66
            have m_tk_wz := m_r66_wz
            have m_bl_tk := m_bl_r66
            have m_tk_bl := m_r66_bl
            refine show _ ∧ _ from ⟨⟨m - 1, (T2 + 1), ag3, _, _, p59.s, s0, s2, s3, s4, s5, s6, s7, s8, s11, s12, s13, s38, s70, hB, h_q8, h_q12, o_of, o_tk, o_wz, o_bl, d_tk_q8, d_tk_q12, m_of_tk, m_tk_of, m_wz_tk, m_tk_wz, m_bl_tk, m_tk_bl, g_tk, (by omega), (by omega), (by omega)⟩, ?_⟩
            show (intOf (a59.eval (.tmp 13))).toNat < (intOf (a46.eval (.tmp 13))).toNat
            rw [s13, mu47]
            simp only [intOf]
            omega
        replace s85 : a48.eval (.tmp 85) = .bool false := (s85).trans (congrArg Value.bool (decide_eq_false hc50))
        refine c_false s85 ?_
        refine wp_exit ?_
        refine hK43 _ _ ?_
        clear hK43
        refine wp_region_lit ?_
        refine q_v p48.s rfl rfl rfl (g_move rfl s12 ?_)
        intro a49 p49
        refine q_v p49.s rfl rfl rfl (g_add (r := ((i + 1 : Nat) : Int)) rfl p49.v rfl (by omega) (by omega) ?_)
        intro a50 p50
        refine q_v p50.s rfl rfl rfl (g_assign rfl p50.v ?_)
        intro a51 p51
        refine wpList_nil ?_
        have kc48 := (((Kps.nil a48).u p49).u p50).u p51
        replace s0 := kc48.k s0 rfl
        replace s2 := kc48.k s2 rfl
        replace s3 := kc48.k s3 rfl
        replace s4 := kc48.k s4 rfl
        replace s5 := kc48.k s5 rfl
        replace s6 := kc48.k s6 rfl
        replace s7 := kc48.k s7 rfl
        replace s8 := kc48.k s8 rfl
        replace s38 := kc48.k s38 rfl
        replace s11 := kc48.k s11 rfl
        replace s12 := p51.v
        replace s70 := kc48.k s70 rfl
        replace s13 := kc48.k s13 rfl
        replace s85 := kc48.k s85 rfl
        clear kc48
        refine show _ ∧ _ from ⟨⟨i + 1, T2, ag2, _, _, p51.s, s0, s2, s3, s4, s5, s6, s7, s8, s11, s12, s38, hB, h_q8, h_q12, o_of, o_tk, o_wz, o_bl, d_tk_q8, d_tk_q12, m_of_tk, m_tk_of, m_wz_tk, m_tk_wz, m_bl_tk, m_tk_bl, g_tk, (by omega), hDT2, hTL2⟩, ?_⟩
        show (blocksL (wtL L D)).length - (intOf (a51.eval (.tmp 12))).toNat < (blocksL (wtL L D)).length - (intOf (a29.eval (.tmp 12))).toNat
        rw [s12, mu39]
        simp only [intOf]
        omega
      replace s70 : a33.eval (.tmp 70) = .bool false := (s70).trans (congrArg Value.bool (decide_eq_false hc42))
      refine c_false s70 ?_
      refine wp_exit ?_
      refine hK35 _ _ ?_
      clear hK35
      refine wp_seq_k fun K68 hK68 => ?_
      have jK68 : ∀ (a : Act) (wr : World) (D : Nat) (wA : Option Addr) (wc : Nat), (St 212 a) ∧ (a.eval (.tmp 0) = .slice A n c) ∧ (a.eval (.tmp 2) = .bool false) ∧ (a.eval (.tmp 3) = .pointer (some ⟨q8, 0, none⟩)) ∧ (a.eval (.tmp 4) = .bool true) ∧ (a.eval (.tmp 5) = .pointer (some ⟨q12, 0, none⟩)) ∧ (a.eval (.tmp 6) = .slice oA N oc) ∧ (a.eval (.tmp 7) = .slice tA1 T1 tc1) ∧ (a.eval (.tmp 8) = .int .i64 ((k : Nat) : Int)) ∧ (a.eval (.tmp 12) = .int .i64 ((i : Nat) : Int)) ∧ (a.eval (.tmp 38) = .bool true) ∧ (a.eval (.tmp 70) = .bool false) ∧ (Below w.heap.size w wr) ∧ (wr.heap[q8]? = some (.cells #[.int .i64 ((L.length : Nat) : Int), .int .i64 wd, .slice wA ((wtL L D).length) wc, .int .i64 ((D : Nat) : Int)] 39 (0, 0))) ∧ (wr.heap[q12]? = some (.cells #[.int .i64 ((T1 : Nat) : Int), .bool false, .bool ag1, .int .i64 ((T1 : Nat) : Int)] 25 (0, 0))) ∧ (wr.ownsRow w.heap.size 9 1 (.slice oA N oc) N (L.flatMap cS)) ∧ (wr.ownsRow w.heap.size 9 1 (.slice tA1 T1 tc1) T1 ((L.take T1).flatMap cS)) ∧ (wr.ownsRow w.heap.size 80 2 (.slice wA ((wtL L D).length) wc) ((wtL L D).length) ((wtL L D).flatMap cSent)) ∧ ((wA : Option Addr).map (·.block) ≠ some q8) ∧ ((wA : Option Addr).map (·.block) ≠ some q12) ∧ (∀ b, (oA : Option Addr).map (·.block) = some b → (wA : Option Addr).map (·.block) ≠ some b) ∧ (∀ b, (wA : Option Addr).map (·.block) = some b → (oA : Option Addr).map (·.block) ≠ some b) ∧ (∀ b, (tA1 : Option Addr).map (·.block) = some b → (wA : Option Addr).map (·.block) ≠ some b) ∧ (∀ b, (wA : Option Addr).map (·.block) = some b → (tA1 : Option Addr).map (·.block) ≠ some b) ∧ (∀ b, (wA : Option Addr).map (·.block) = some b → w.heap.size ≤ b) ∧ (SnG L D wd) ∧ (D ≤ T1) → K68 a wr := by
        rintro a34 w69 D wA wc ⟨hs, s0, s2, s3, s4, s5, s6, s7, s8, s12, s38, s70, hB, h_q8, h_q12, o_of, o_tk, o_wz, d_wz_q8, d_wz_q12, m_of_wz, m_wz_of, m_tk_wz, m_wz_tk, g_wz, hS, hDT1⟩
        have hSn := hS.n
        refine hK68 _ _ ?_
        clear hK68
        refine wp_seq_k fun K70 hK70 => ?_
        refine wp_region_lit ?_
        refine q_v hs rfl rfl rfl (g_move rfl s7 ?_)
        intro a35 p35
        refine q_v p35.s rfl rfl rfl (g_len (e := _) rfl Try.underlying43 p35.v ?_)
        intro a36 p36
        refine q_v p36.s rfl rfl rfl (g_move rfl (p36.k (p35.k s6 rfl) rfl) ?_)
        intro a37 p37
        refine q_v p37.s rfl rfl rfl (g_len (e := _) rfl Try.underlying43 p37.v ?_)
        intro a38 p38
        refine q_v p38.s rfl rfl rfl (g_gtr rfl (p38.k (p37.k p36.v rfl) rfl) p38.v ?_)
        intro a39 p39
        have s122 : a39.eval (.tmp 122) = .bool false := (p39.v).trans (congrArg Value.bool (decide_eq_false (by omega)))
        refine q_v p39.s rfl rfl rfl (g_move rfl s122 ?_)
        intro a40 p40
        refine q_t p40.s rfl rfl p40.v rfl rfl (g_move rfl (p40.k (p39.k (p38.k (p37.k (p36.k (p35.k s7 rfl) rfl) rfl) rfl) rfl) rfl) ?_)
        intro a41 p41
        refine q_t p41.s rfl rfl (p41.k p40.v rfl) rfl rfl (g_move rfl (p41.k (p40.k (p39.k (p38.k (p37.k (p36.k (p35.k s6 rfl) rfl) rfl) rfl) rfl) rfl) rfl) ?_)
        intro a42 p42
        refine q_t p42.s rfl rfl (p42.k (p41.k p40.v rfl) rfl) rfl rfl (g_move rfl (p42.k (p41.k (p40.k (p39.k (p38.k (p37.k (p36.k (p35.k s7 rfl) rfl) rfl) rfl) rfl) rfl) rfl) rfl) ?_)
        intro a43 p43
        refine q_t p43.s rfl rfl (p43.k (p42.k (p41.k p40.v rfl) rfl) rfl) rfl rfl (g_len (e := _) rfl Try.underlying43 p43.v ?_)
        intro a44 p44
        refine q_t p44.s rfl rfl (p44.k (p43.k (p42.k (p41.k p40.v rfl) rfl) rfl) rfl) rfl rfl (g_head rfl (p44.k (p43.k p42.v rfl) rfl) p44.v Try.underlying43 (fun w => Try.sizeOf9 w) (by have := (own_cap o_of).1; omega) ?_)
        intro a45 p45
        refine q_t p45.s rfl rfl (p45.k (p44.k (p43.k (p42.k (p41.k p40.v rfl) rfl) rfl) rfl) rfl) rfl rfl ?_
        refine g_call rfl rfl Try.call35 (arr2 (p45.k (p44.k (p43.k (p42.k p41.v rfl) rfl) rfl) rfl) p45.v) ?_
        refine (sameTexts_same _ rfl (take_len (by omega)) (by simp only [List.length_take] <;> omega) (by omega) (Rd.of_own o_tk) (Rd.take cS_len (Rd.of_own o_of) hN (by omega))).mono ?_
        rintro e w73 ⟨rfl, hb72⟩
        refine ⟨_, rfl, ?_⟩
        replace h_q8 := keep_below h_q8 hb72
        replace h_q12 := keep_below h_q12 hb72
        replace o_of := own_below o_of hb72
        replace o_tk := own_below o_tk hb72
        replace o_wz := own_below o_wz hb72
        replace hB := hB.trans (hb72.mono hB.size)
        clear hb72
        intro a46 p46
        refine q_t p46.s rfl rfl (p46.k (p45.k (p44.k (p43.k (p42.k (p41.k p40.v rfl) rfl) rfl) rfl) rfl) rfl) rfl rfl (g_not rfl p46.v ?_)
        intro a47 p47
        refine q_v p47.s rfl rfl rfl (g_pick_f rfl (p47.k (p46.k (p45.k (p44.k (p43.k (p42.k (p41.k p40.v rfl) rfl) rfl) rfl) rfl) rfl) rfl) p47.v ?_)
        intro a48 p48
        have s131 : a48.eval (.tmp 131) = .bool false := p48.v
        refine q_v p48.s rfl rfl rfl (g_move rfl s131 ?_)
        intro a49 p49
        refine q_t p49.s rfl rfl p49.v rfl rfl (g_field (r := 3) rfl (p49.k (p48.k (p47.k (p46.k (p45.k (p44.k (p43.k (p42.k (p41.k (p40.k (p39.k (p38.k (p37.k (p36.k (p35.k s3 rfl) rfl) rfl) rfl) rfl) rfl) rfl) rfl) rfl) rfl) rfl) rfl) rfl) rfl) rfl) Try.underlying39 rfl (fun w => Try.sizeOf3 w) rfl rfl ?_)
        intro a50 p50
        refine q_t p50.s rfl rfl (p50.k p49.v rfl) rfl rfl (g_load rfl p50.v Try.isAgg3 (box_cell h_q8 rfl) ?_)
        intro a51 p51
        refine q_t p51.s rfl rfl (p51.k (p50.k p49.v rfl) rfl) rfl rfl (g_move rfl (p51.k (p50.k (p49.k (p48.k (p47.k (p46.k (p45.k (p44.k (p43.k (p42.k (p41.k (p40.k (p39.k (p38.k (p37.k (p36.k (p35.k s7 rfl) rfl) rfl) rfl) rfl) rfl) rfl) rfl) rfl) rfl) rfl) rfl) rfl) rfl) rfl) rfl) rfl) ?_)
        intro a52 p52
        refine q_t p52.s rfl rfl (p52.k (p51.k (p50.k p49.v rfl) rfl) rfl) rfl rfl (g_len (e := _) rfl Try.underlying43 p52.v ?_)
        intro a53 p53
        refine q_t p53.s rfl rfl (p53.k (p52.k (p51.k (p50.k p49.v rfl) rfl) rfl) rfl) rfl rfl (g_gtr rfl (p53.k (p52.k p51.v rfl) rfl) p53.v ?_)
        intro a54 p54
        have s137 : a54.eval (.tmp 137) = .bool false := (p54.v).trans (congrArg Value.bool (decide_eq_false (by omega)))
        refine q_v p54.s rfl rfl rfl (g_pick_f rfl (p54.k (p53.k (p52.k (p51.k (p50.k p49.v rfl) rfl) rfl) rfl) rfl) s137 ?_)
        intro a55 p55
        have s138 : a55.eval (.tmp 138) = .bool false := p55.v
        refine q_v p55.s rfl rfl rfl (g_move rfl s138 ?_)
        intro a56 p56
        refine q_t p56.s rfl rfl p56.v rfl rfl (g_loadB rfl (p56.k (p55.k (p54.k (p53.k (p52.k (p51.k (p50.k (p49.k (p48.k (p47.k (p46.k (p45.k (p44.k (p43.k (p42.k (p41.k (p40.k (p39.k (p38.k (p37.k (p36.k (p35.k s3 rfl) rfl) rfl) rfl) rfl) rfl) rfl) rfl) rfl) rfl) rfl) rfl) rfl) rfl) rfl) rfl) rfl) rfl) rfl) rfl) rfl) rfl) Try.isAgg39 Try.sizeOf39 rfl h_q8 ?_)
        intro a57 p57
        refine q_t p57.s rfl rfl (p57.k p56.v rfl) rfl rfl ?_
        refine g_call rfl rfl Try.call36 (arr1 p57.v) ?_
        refine (senderOk_on _ hS rfl (Rd.of_own o_wz)).mono ?_
        rintro e w75 ⟨rfl, hb74⟩
        refine ⟨_, rfl, ?_⟩
        replace h_q8 := keep_below h_q8 hb74
        replace h_q12 := keep_below h_q12 hb74
        replace o_of := own_below o_of hb74
        replace o_tk := own_below o_tk hb74
        replace o_wz := own_below o_wz hb74
        replace hB := hB.trans (hb74.mono hB.size)
        clear hb74
        intro a58 p58
        refine q_t p58.s rfl rfl (p58.k (p57.k p56.v rfl) rfl) rfl rfl (g_not rfl p58.v ?_)
        intro a59 p59
        refine q_v p59.s rfl rfl rfl (g_pick_f rfl (p59.k (p58.k (p57.k p56.v rfl) rfl) rfl) p59.v ?_)
        intro a60 p60
        have s143 : a60.eval (.tmp 143) = .bool false := p60.v
        refine q_v p60.s rfl rfl rfl (g_move rfl s143 ?_)
        intro a61 p61
        refine q_t p61.s rfl rfl p61.v rfl rfl (g_loadB rfl (p61.k (p60.k (p59.k (p58.k (p57.k (p56.k (p55.k (p54.k (p53.k (p52.k (p51.k (p50.k (p49.k (p48.k (p47.k (p46.k (p45.k (p44.k (p43.k (p42.k (p41.k (p40.k (p39.k (p38.k (p37.k (p36.k (p35.k s5 rfl) rfl) rfl) rfl) rfl) rfl) rfl) rfl) rfl) rfl) rfl) rfl) rfl) rfl) rfl) rfl) rfl) rfl) rfl) rfl) rfl) rfl) rfl) rfl) rfl) rfl) rfl) Try.isAgg25 Try.sizeOf25 rfl h_q12 ?_)
        intro a62 p62
        refine q_t p62.s rfl rfl (p62.k p61.v rfl) rfl rfl ?_
        refine g_call rfl rfl Try.call20 (arr1 p62.v) ?_
        refine (receiverOk_on _ (by omega)).mono ?_
        rintro e w77 ⟨rfl, hb76⟩
        refine ⟨_, rfl, ?_⟩
        replace h_q8 := keep_below h_q8 hb76
        replace h_q12 := keep_below h_q12 hb76
        replace o_of := own_below o_of hb76
        replace o_tk := own_below o_tk hb76
        replace o_wz := own_below o_wz hb76
        replace hB := hB.trans (hb76.mono hB.size)
        clear hb76
        intro a63 p63
        refine q_t p63.s rfl rfl (p63.k (p62.k p61.v rfl) rfl) rfl rfl (g_not rfl p63.v ?_)
        intro a64 p64
        refine q_v p64.s rfl rfl rfl (g_pick_f rfl (p64.k (p63.k (p62.k p61.v rfl) rfl) rfl) p64.v ?_)
        intro a65 p65
        have s148 : a65.eval (.tmp 148) = .bool false := p65.v
        refine q_v p65.s rfl rfl rfl (g_move rfl s148 ?_)
        intro a66 p66
        refine q_t p66.s rfl rfl p66.v rfl rfl (g_field (r := 1) rfl (p66.k (p65.k (p64.k (p63.k (p62.k (p61.k (p60.k (p59.k (p58.k (p57.k (p56.k (p55.k (p54.k (p53.k (p52.k (p51.k (p50.k (p49.k (p48.k (p47.k (p46.k (p45.k (p44.k (p43.k (p42.k (p41.k (p40.k (p39.k (p38.k (p37.k (p36.k (p35.k s5 rfl) rfl) rfl) rfl) rfl) rfl) rfl) rfl) rfl) rfl) rfl) rfl) rfl) rfl) rfl) rfl) rfl) rfl) rfl) rfl) rfl) rfl) rfl) rfl) rfl) rfl) rfl) rfl) rfl) rfl) rfl) rfl) Try.underlying25 rfl (fun w => Try.sizeOf4 w) rfl rfl ?_)
        intro a67 p67
        refine q_t p67.s rfl rfl (p67.k p66.v rfl) rfl rfl (g_load rfl p67.v Try.isAgg4 (box_cell h_q12 rfl) ?_)
        intro a68 p68
        refine q_v p68.s rfl rfl rfl (g_pick_f rfl (p68.k (p67.k p66.v rfl) rfl) p68.v ?_)
        intro a69 p69
        have s152 : a69.eval (.tmp 152) = .bool false := p69.v
        refine wpList_nil ?_
        have kc34 := (((((((((((((((((((((((((((((((((((Kps.nil a34).u p35).u p36).u p37).u p38).u p39).u p40).u p41).u p42).u p43).u p44).u p45).u p46).u p47).u p48).u p49).u p50).u p51).u p52).u p53).u p54).u p55).u p56).u p57).u p58).u p59).u p60).u p61).u p62).u p63).u p64).u p65).u p66).u p67).u p68).u p69
        replace s0 := kc34.k s0 rfl
        replace s2 := kc34.k s2 rfl
        replace s3 := kc34.k s3 rfl
        replace s4 := kc34.k s4 rfl
        replace s5 := kc34.k s5 rfl
        replace s6 := kc34.k s6 rfl
        replace s7 := kc34.k s7 rfl
        replace s8 := kc34.k s8 rfl
        replace s38 := kc34.k s38 rfl
        replace s12 := kc34.k s12 rfl
        replace s70 := kc34.k s70 rfl
        clear kc34
        refine hK70 _ _ ?_
        clear hK70
        refine c_false s152 ?_
        refine wp_skip ?_
        refine hK29 _ _ ?_
        clear hK29
        refine wp_region_lit ?_
        refine q_v p69.s rfl rfl rfl (g_move rfl s8 ?_)
        intro a70 p70
        refine q_v p70.s rfl rfl rfl (g_add (r := ((k + 1 : Nat) : Int)) rfl p70.v rfl (by omega) (by omega) ?_)
        intro a71 p71
        refine q_v p71.s rfl rfl rfl (g_assign rfl p71.v ?_)
        intro a72 p72
        refine wpList_nil ?_
        have kc69 := (((Kps.nil a69).u p70).u p71).u p72
        replace s0 := kc69.k s0 rfl
        replace s2 := kc69.k s2 rfl
        replace s3 := kc69.k s3 rfl
        replace s4 := kc69.k s4 rfl
        replace s5 := kc69.k s5 rfl
        replace s6 := kc69.k s6 rfl
        replace s7 := kc69.k s7 rfl
        replace s8 := p72.v
        replace s38 := kc69.k s38 rfl
        replace s12 := kc69.k s12 rfl
        replace s70 := kc69.k s70 rfl
        replace s152 := kc69.k s152 rfl
        clear kc69
        refine show _ ∧ _ from ⟨⟨k + 1, L, N, D, T1, ag1, _, _, _, _, _, _, p72.s, s0, s2, s3, s4, s5, s6, s7, s8, hB, h_q8, h_q12, o_of, o_tk, o_wz, d_wz_q8, d_wz_q12, m_of_wz, m_tk_wz, g_wz, d_of_q8, d_of_q12, m_tk_of, m_wz_of, g_of, d_tk_q8, d_tk_q12, m_of_tk, m_wz_tk, g_tk, hS, hN, (by omega), (by omega), (by omega)⟩, ?_⟩
        show 60 - (intOf (a72.eval (.tmp 8))).toNat < 60 - (intOf (a21.eval (.tmp 8))).toNat
        rw [s8, mu25]
        simp only [intOf]
        omega
      clear hK68
      refine wp_seq_k fun K78 hK78 => ?_
      have hak7 := atN_le bs (k + 7)
      refine wp_region_lit ?_
      refine q_v p33.s rfl rfl rfl (g_move rfl s0 ?_)
      intro a34 p34
      refine q_v p34.s rfl rfl rfl (g_move rfl (p34.k s8 rfl) ?_)
      intro a35 p35
      refine q_v p35.s rfl rfl rfl (g_add (r := ((k + 7 : Nat) : Int)) rfl p35.v rfl (by omega) (by omega) ?_)
      intro a36 p36
      refine q_v p36.s rfl rfl rfl ?_
      refine g_call rfl rfl Try.call28 (arr2 (p36.k (p35.k p34.v rfl) rfl) p36.v) ?_
      refine (at_nat hlen hnc hcm (hr_cc.below hB) (k + 7) (by omega)).mono ?_
      rintro e w' ⟨rfl, rfl⟩
      refine ⟨_, rfl, ?_⟩
      intro a37 p37
      refine q_v p37.s rfl rfl rfl (g_rem (N := atN bs (k + 7)) (M := 2) rfl p37.v rfl (by omega) rfl (by decide) (by decide) ?_)
      intro a38 p38
      refine q_v p38.s rfl rfl rfl (g_eql rfl p38.v rfl ?_)
      intro a39 p39
      refine q_v p39.s rfl rfl rfl (g_move rfl p39.v ?_)
      intro a40 p40
      by_cases hc79 : (((atN bs (k + 7)) % 2 : Nat) : Int) = 0
      · have s109 : a39.eval (.tmp 109) = .bool true := (p39.v).trans (congrArg Value.bool (decide_eq_true hc79))
        have s110 : a40.eval (.tmp 110) = .bool true := (p40.v).trans (congrArg Value.bool (decide_eq_true hc79))
        refine q_s p40.s rfl rfl s110 rfl rfl ?_
        intro a41 p41
        refine q_s p41.s rfl rfl (p41.k s110 rfl) rfl rfl ?_
        intro a42 p42
        refine q_v p42.s rfl rfl rfl (g_pick_t rfl (p42.k (p41.k s110 rfl) rfl) rfl ?_)
        intro a43 p43
        have s113 : a43.eval (.tmp 113) = .bool true := p43.v
        refine wpList_nil ?_
        have kc33 := ((((((((((Kps.nil a33).u p34).u p35).u p36).u p37).u p38).u p39).u p40).u p41).u p42).u p43
        replace s0 := kc33.k s0 rfl
        replace s2 := kc33.k s2 rfl
        replace s3 := kc33.k s3 rfl
        replace s4 := kc33.k s4 rfl
        replace s5 := kc33.k s5 rfl
        replace s6 := kc33.k s6 rfl
        replace s7 := kc33.k s7 rfl
        replace s8 := kc33.k s8 rfl
        replace s38 := kc33.k s38 rfl
        replace s12 := kc33.k s12 rfl
        replace s70 := kc33.k s70 rfl
        clear kc33
        refine hK78 _ _ ?_
        clear hK78
        refine c_true s113 ?_
        have hs := p43.s
        refine wp_drawn (n := 212) [] [4] [] (fun k_ v_ wx => match k_ with | 0 => v_ = .agg #[.int .i64 ((L.length : Nat) : Int), .int .i64 wd, .slice wA ((wtL L D).length) wc, .int .i64 ((D : Nat) : Int)] | 1 => v_ = .agg #[.int .i64 ((T1 : Nat) : Int), .bool false, .bool ag1, .int .i64 ((T1 : Nat) : Int)] | 2 => v_ = .agg #[.int .i64 ((T1 : Nat) : Int), .bool false, .bool ag1] | 3 => ∃ (A81 : Option Addr) (c81 : Nat), v_ = .agg #[.int .i64 ((L.length : Nat) : Int), .int .i64 wd, .slice A81 ((wtL L T1).length) c81, .int .i64 ((T1 : Nat) : Int)] ∧ ((wx).ownsRow w38.heap.size 80 2 (.slice A81 ((wtL L T1).length) c81) ((wtL L T1).length) ((wtL L T1).flatMap cSent)) | _ => True) (by kernel_rfl) (by kernel_rfl) (by kernel_rfl) (by kernel_rfl) hs.size ?_ ?_ ?_
        · intro i v wa wb hb hr
          rcases i with _ | _ | _ | _ | _ | i
          · exact hr
          · exact hr
          · exact hr
          · obtain ⟨A81, c81, hr, o_y81⟩ := hr; exact ⟨A81, c81, hr, own_below o_y81 hb⟩
          · trivial
          · trivial
        · refine d_step rfl rfl ?_ (d_step rfl rfl ?_ (d_step rfl rfl ?_ (d_step rfl rfl ?_ (d_chain rfl (d_nil)))))
          · intro xv_ wx ρ hρ hwx hd K hK
            have e3 : ρ (.tmp 3) = .pointer (some ⟨q8, 0, none⟩) := (hρ.inn 3 rfl).trans s3
            have h_q8 := keep_below h_q8 hwx
            refine g_loadB rfl e3 Try.isAgg39 Try.sizeOf39 rfl h_q8 ?_
            exact hK _ _ (Below.refl _ _) rfl
          · intro xv_ wx ρ hρ hwx hd K hK
            have e5 : ρ (.tmp 5) = .pointer (some ⟨q12, 0, none⟩) := (hρ.inn 5 rfl).trans s5
            have h_q12 := keep_below h_q12 hwx
            refine g_loadB rfl e5 Try.isAgg25 Try.sizeOf25 rfl h_q12 ?_
            exact hK _ _ (Below.refl _ _) rfl
          · intro xv_ wx ρ hρ hwx hd K hK
            have e115 := (out2 hρ hs 1 115 rfl rfl rfl).trans (hd 1 rfl)
            refine g_call rfl (hρ.fn _) Try.call25 (arr1 e115) ?_
            refine (noticeOf_any _ _ _ _ _).mono ?_
            rintro e wy ⟨rfl, hb80⟩
            exact ⟨_, rfl, hK _ _ hb80 rfl⟩
          · intro xv_ wx ρ hρ hwx hd K hK
            have e114 := (out2 hρ hs 0 114 rfl rfl rfl).trans (hd 0 rfl)
            have e116 := (out2 hρ hs 2 116 rfl rfl rfl).trans (hd 2 rfl)
            refine g_call rfl (hρ.fn _) Try.call34 (arr2 e114 e116) ?_
            refine (hear_on _ hS (by omega) (by omega) rfl (own_cap o_wz).1 (own_nil o_wz) ((Rd.of_own o_wz).below hwx)).mono ?_
            rintro e wy ⟨A81, c81, rfl, o_y81, hb81⟩
            exact ⟨_, rfl, hK _ _ hb81 ⟨A81, c81, rfl, own_base o_y81 hwx.size⟩⟩
        · intro x0_ w82 hb_w82 hr0
          obtain ⟨A81, c81, r3, o_y81⟩ : ∃ (A81 : Option Addr) (c81 : Nat), x0_ 3 = .agg #[.int .i64 ((L.length : Nat) : Int), .int .i64 wd, .slice A81 ((wtL L T1).length) c81, .int .i64 ((T1 : Nat) : Int)] ∧ ((w82).ownsRow w38.heap.size 80 2 (.slice A81 ((wtL L T1).length) c81) ((wtL L T1).length) ((wtL L T1).flatMap cSent)) := hr0 3 (by decide) rfl rfl
          have d_y81_q8 := own_ne_box o_y81 (lt_of_block h_q8)
          have d_y81_q12 := own_ne_box o_y81 (lt_of_block h_q12)
          have m_of_y81 := own_ne_row o_of o_y81 (Nat.le_refl _)
          have m_y81_of := ne_row_symm m_of_y81
          have m_tk_y81 := own_ne_row o_tk o_y81 (Nat.le_refl _)
          have m_y81_tk := ne_row_symm m_tk_y81
          have g_y81 : ∀ b, (A81 : Option Addr).map (·.block) = some b → w.heap.size ≤ b := fun b h => Nat.le_trans hB.size (own_row o_y81 b h).1
          replace o_y81 := own_base (base := w.heap.size) o_y81 hB.size
          replace h_q8 := keep_below h_q8 hb_w82
          replace h_q12 := keep_below h_q12 hb_w82
          replace o_of := own_below o_of hb_w82
          replace o_tk := own_below o_tk hb_w82
          replace o_wz := own_below o_wz hb_w82
          replace hB := hB.trans (hb_w82.mono hB.size)
          clear hb_w82
          intro op_ ho_ xv_ ρ hρ qx_ ql_ qk_
          obtain rfl := Option.some.inj ho_
          clear ho_
          have e3 : ρ (.tmp 3) = .pointer (some ⟨q8, 0, none⟩) := (hρ.inn 3 rfl).trans s3
          have e117 : ρ (.tmp 117) = .agg #[.int .i64 ((L.length : Nat) : Int), .int .i64 wd, .slice A81 ((wtL L T1).length) c81, .int .i64 ((T1 : Nat) : Int)] := (hρ.out 3 117 rfl (by rw [hs.size]; decide) rfl).trans ((qx_ 3 (by decide) rfl rfl).trans r3)
          refine g_storeB rfl e3 e117 Try.sizeOf39 rfl rfl h_q8 rfl ?_
          intro w83 W_w83
          replace h_q8 := W_w83.here
          replace h_q12 := keep_wrote h_q12 W_w83 n_q8_q12
          replace o_of := own_wrote o_of W_w83 d_of_q8
          replace o_tk := own_wrote o_tk W_w83 d_tk_q8
          replace o_wz := own_wrote o_wz W_w83 d_wz_q8
          replace o_y81 := own_wrote o_y81 W_w83 d_y81_q8
          replace hB := below_wrote hB hB.size W_w83 g_q8.le
          clear W_w83
          clear e117 e3
          clear hρ qx_ ql_ qk_
          intro xv_ a44 hρ hsz hdf qx_ ql_ qk_ qlk_
          replace s0 : a44.eval (.tmp 0) = .slice A n c := (hρ.inn 0 rfl).trans s0
          replace s2 : a44.eval (.tmp 2) = .bool false := (hρ.inn 2 rfl).trans s2
          replace s3 : a44.eval (.tmp 3) = .pointer (some ⟨q8, 0, none⟩) := (hρ.inn 3 rfl).trans s3
          replace s4 : a44.eval (.tmp 4) = .bool true := (hρ.inn 4 rfl).trans s4
          replace s5 : a44.eval (.tmp 5) = .pointer (some ⟨q12, 0, none⟩) := (hρ.inn 5 rfl).trans s5
          replace s6 : a44.eval (.tmp 6) = .slice oA N oc := (hρ.inn 6 rfl).trans s6
          replace s7 : a44.eval (.tmp 7) = .slice tA1 T1 tc1 := (hρ.inn 7 rfl).trans s7
          replace s8 : a44.eval (.tmp 8) = .int .i64 ((k : Nat) : Int) := (hρ.inn 8 rfl).trans s8
          replace s12 : a44.eval (.tmp 12) = .int .i64 ((i : Nat) : Int) := (hρ.inn 12 rfl).trans s12
          replace s38 : a44.eval (.tmp 38) = .bool true := (hρ.inn 38 rfl).trans s38
          replace s70 : a44.eval (.tmp 70) = .bool false := (hρ.inn 70 rfl).trans s70
          replace s113 : a44.eval (.tmp 113) = .bool true := (hρ.inn 113 rfl).trans s113
          replace hs : St 212 a44 := ⟨hsz.trans hs.size, hdf.trans hs.nodef⟩
          clear hρ hsz hdf qx_ ql_ qk_ qlk_
          have o_wz := o_y81
          have g_wz := g_y81
          have d_wz_q8 := d_y81_q8
          have d_wz_q12 := d_y81_q12
          have m_of_wz := m_of_y81
          have m_wz_of := m_y81_of
          have m_tk_wz := m_tk_y81
          have m_wz_tk := m_y81_tk
          exact jK68 _ _ T1 _ _ ⟨hs, s0, s2, s3, s4, s5, s6, s7, s8, s12, s38, s70, hB, h_q8, h_q12, o_of, o_tk, o_wz, d_wz_q8, d_wz_q12, m_of_wz, m_wz_of, m_tk_wz, m_wz_tk, g_wz, (hS.hear (by omega) (by omega)), (Nat.le_refl _)⟩
      have s109 : a39.eval (.tmp 109) = .bool false := (p39.v).trans (congrArg Value.bool (decide_eq_false hc79))
      have s110 : a40.eval (.tmp 110) = .bool false := (p40.v).trans (congrArg Value.bool (decide_eq_false hc79))
      refine q_t p40.s rfl rfl s110 rfl rfl (g_move rfl (p40.k (p39.k (p38.k (p37.k (p36.k (p35.k (p34.k s8 rfl) rfl) rfl) rfl) rfl) rfl) rfl) ?_)
      intro a41 p41
      refine q_t p41.s rfl rfl (p41.k s110 rfl) rfl rfl (g_gtr rfl p41.v rfl ?_)
      intro a42 p42
      refine q_v p42.s rfl rfl rfl (g_pick_f rfl (p42.k (p41.k s110 rfl) rfl) p42.v ?_)
      intro a43 p43
      have s113 : a43.eval (.tmp 113) = .bool (decide (45 < ((k : Nat) : Int))) := p43.v
      refine wpList_nil ?_
      have kc33 := ((((((((((Kps.nil a33).u p34).u p35).u p36).u p37).u p38).u p39).u p40).u p41).u p42).u p43
      replace s0 := kc33.k s0 rfl
      replace s2 := kc33.k s2 rfl
      replace s3 := kc33.k s3 rfl
      replace s4 := kc33.k s4 rfl
      replace s5 := kc33.k s5 rfl
      replace s6 := kc33.k s6 rfl
      replace s7 := kc33.k s7 rfl
      replace s8 := kc33.k s8 rfl
      replace s38 := kc33.k s38 rfl
      replace s12 := kc33.k s12 rfl
      replace s70 := kc33.k s70 rfl
      clear kc33
      refine hK78 _ _ ?_
      clear hK78
      by_cases hc84 : 45 < ((k : Nat) : Int)
      · replace s113 : a43.eval (.tmp 113) = .bool true := (s113).trans (congrArg Value.bool (decide_eq_true hc84))
        refine c_true s113 ?_
        have hs := p43.s
        refine wp_drawn (n := 212) [] [4] [] (fun k_ v_ wx => match k_ with | 0 => v_ = .agg #[.int .i64 ((L.length : Nat) : Int), .int .i64 wd, .slice wA ((wtL L D).length) wc, .int .i64 ((D : Nat) : Int)] | 1 => v_ = .agg #[.int .i64 ((T1 : Nat) : Int), .bool false, .bool ag1, .int .i64 ((T1 : Nat) : Int)] | 2 => v_ = .agg #[.int .i64 ((T1 : Nat) : Int), .bool false, .bool ag1] | 3 => ∃ (A86 : Option Addr) (c86 : Nat), v_ = .agg #[.int .i64 ((L.length : Nat) : Int), .int .i64 wd, .slice A86 ((wtL L T1).length) c86, .int .i64 ((T1 : Nat) : Int)] ∧ ((wx).ownsRow w38.heap.size 80 2 (.slice A86 ((wtL L T1).length) c86) ((wtL L T1).length) ((wtL L T1).flatMap cSent)) | _ => True) (by kernel_rfl) (by kernel_rfl) (by kernel_rfl) (by kernel_rfl) hs.size ?_ ?_ ?_
        · intro i v wa wb hb hr
          rcases i with _ | _ | _ | _ | _ | i
          · exact hr
          · exact hr
          · exact hr
          · obtain ⟨A86, c86, hr, o_y86⟩ := hr; exact ⟨A86, c86, hr, own_below o_y86 hb⟩
          · trivial
          · trivial
        · refine d_step rfl rfl ?_ (d_step rfl rfl ?_ (d_step rfl rfl ?_ (d_step rfl rfl ?_ (d_chain rfl (d_nil)))))
          · intro xv_ wx ρ hρ hwx hd K hK
            have e3 : ρ (.tmp 3) = .pointer (some ⟨q8, 0, none⟩) := (hρ.inn 3 rfl).trans s3
            have h_q8 := keep_below h_q8 hwx
            refine g_loadB rfl e3 Try.isAgg39 Try.sizeOf39 rfl h_q8 ?_
            exact hK _ _ (Below.refl _ _) rfl
          · intro xv_ wx ρ hρ hwx hd K hK
            have e5 : ρ (.tmp 5) = .pointer (some ⟨q12, 0, none⟩) := (hρ.inn 5 rfl).trans s5
            have h_q12 := keep_below h_q12 hwx
            refine g_loadB rfl e5 Try.isAgg25 Try.sizeOf25 rfl h_q12 ?_
            exact hK _ _ (Below.refl _ _) rfl
          · intro xv_ wx ρ hρ hwx hd K hK
            have e115 := (out2 hρ hs 1 115 rfl rfl rfl).trans (hd 1 rfl)
            refine g_call rfl (hρ.fn _) Try.call25 (arr1 e115) ?_
            refine (noticeOf_any _ _ _ _ _).mono ?_
            rintro e wy ⟨rfl, hb85⟩
            exact ⟨_, rfl, hK _ _ hb85 rfl⟩
          · intro xv_ wx ρ hρ hwx hd K hK
            have e114 := (out2 hρ hs 0 114 rfl rfl rfl).trans (hd 0 rfl)
            have e116 := (out2 hρ hs 2 116 rfl rfl rfl).trans (hd 2 rfl)
            refine g_call rfl (hρ.fn _) Try.call34 (arr2 e114 e116) ?_
            refine (hear_on _ hS (by omega) (by omega) rfl (own_cap o_wz).1 (own_nil o_wz) ((Rd.of_own o_wz).below hwx)).mono ?_
            rintro e wy ⟨A86, c86, rfl, o_y86, hb86⟩
            exact ⟨_, rfl, hK _ _ hb86 ⟨A86, c86, rfl, own_base o_y86 hwx.size⟩⟩
        · intro x0_ w87 hb_w87 hr0
          obtain ⟨A86, c86, r3, o_y86⟩ : ∃ (A86 : Option Addr) (c86 : Nat), x0_ 3 = .agg #[.int .i64 ((L.length : Nat) : Int), .int .i64 wd, .slice A86 ((wtL L T1).length) c86, .int .i64 ((T1 : Nat) : Int)] ∧ ((w87).ownsRow w38.heap.size 80 2 (.slice A86 ((wtL L T1).length) c86) ((wtL L T1).length) ((wtL L T1).flatMap cSent)) := hr0 3 (by decide) rfl rfl
          have d_y86_q8 := own_ne_box o_y86 (lt_of_block h_q8)
          have d_y86_q12 := own_ne_box o_y86 (lt_of_block h_q12)
          have m_of_y86 := own_ne_row o_of o_y86 (Nat.le_refl _)
          have m_y86_of := ne_row_symm m_of_y86
          have m_tk_y86 := own_ne_row o_tk o_y86 (Nat.le_refl _)
          have m_y86_tk := ne_row_symm m_tk_y86
          have g_y86 : ∀ b, (A86 : Option Addr).map (·.block) = some b → w.heap.size ≤ b := fun b h => Nat.le_trans hB.size (own_row o_y86 b h).1
          replace o_y86 := own_base (base := w.heap.size) o_y86 hB.size
          replace h_q8 := keep_below h_q8 hb_w87
          replace h_q12 := keep_below h_q12 hb_w87
          replace o_of := own_below o_of hb_w87
          replace o_tk := own_below o_tk hb_w87
          replace o_wz := own_below o_wz hb_w87
          replace hB := hB.trans (hb_w87.mono hB.size)
          clear hb_w87
          intro op_ ho_ xv_ ρ hρ qx_ ql_ qk_
          obtain rfl := Option.some.inj ho_
          clear ho_
          have e3 : ρ (.tmp 3) = .pointer (some ⟨q8, 0, none⟩) := (hρ.inn 3 rfl).trans s3
          have e117 : ρ (.tmp 117) = .agg #[.int .i64 ((L.length : Nat) : Int), .int .i64 wd, .slice A86 ((wtL L T1).length) c86, .int .i64 ((T1 : Nat) : Int)] := (hρ.out 3 117 rfl (by rw [hs.size]; decide) rfl).trans ((qx_ 3 (by decide) rfl rfl).trans r3)
          refine g_storeB rfl e3 e117 Try.sizeOf39 rfl rfl h_q8 rfl ?_
          intro w88 W_w88
          replace h_q8 := W_w88.here
          replace h_q12 := keep_wrote h_q12 W_w88 n_q8_q12
          replace o_of := own_wrote o_of W_w88 d_of_q8
          replace o_tk := own_wrote o_tk W_w88 d_tk_q8
          replace o_wz := own_wrote o_wz W_w88 d_wz_q8
          replace o_y86 := own_wrote o_y86 W_w88 d_y86_q8
          replace hB := below_wrote hB hB.size W_w88 g_q8.le
          clear W_w88
          clear e117 e3
          clear hρ qx_ ql_ qk_
          intro xv_ a44 hρ hsz hdf qx_ ql_ qk_ qlk_
          replace s0 : a44.eval (.tmp 0) = .slice A n c := (hρ.inn 0 rfl).trans s0
          replace s2 : a44.eval (.tmp 2) = .bool false := (hρ.inn 2 rfl).trans s2
          replace s3 : a44.eval (.tmp 3) = .pointer (some ⟨q8, 0, none⟩) := (hρ.inn 3 rfl).trans s3
          replace s4 : a44.eval (.tmp 4) = .bool true := (hρ.inn 4 rfl).trans s4
          replace s5 : a44.eval (.tmp 5) = .pointer (some ⟨q12, 0, none⟩) := (hρ.inn 5 rfl).trans s5
          replace s6 : a44.eval (.tmp 6) = .slice oA N oc := (hρ.inn 6 rfl).trans s6
          replace s7 : a44.eval (.tmp 7) = .slice tA1 T1 tc1 := (hρ.inn 7 rfl).trans s7
          replace s8 : a44.eval (.tmp 8) = .int .i64 ((k : Nat) : Int) := (hρ.inn 8 rfl).trans s8
          replace s12 : a44.eval (.tmp 12) = .int .i64 ((i : Nat) : Int) := (hρ.inn 12 rfl).trans s12
          replace s38 : a44.eval (.tmp 38) = .bool true := (hρ.inn 38 rfl).trans s38
          replace s70 : a44.eval (.tmp 70) = .bool false := (hρ.inn 70 rfl).trans s70
          replace s113 : a44.eval (.tmp 113) = .bool true := (hρ.inn 113 rfl).trans s113
          replace hs : St 212 a44 := ⟨hsz.trans hs.size, hdf.trans hs.nodef⟩
          clear hρ hsz hdf qx_ ql_ qk_ qlk_
          have o_wz := o_y86
          have g_wz := g_y86
          have d_wz_q8 := d_y86_q8
          have d_wz_q12 := d_y86_q12
          have m_of_wz := m_of_y86
          have m_wz_of := m_y86_of
          have m_tk_wz := m_tk_y86
          have m_wz_tk := m_y86_tk
          exact jK68 _ _ T1 _ _ ⟨hs, s0, s2, s3, s4, s5, s6, s7, s8, s12, s38, s70, hB, h_q8, h_q12, o_of, o_tk, o_wz, d_wz_q8, d_wz_q12, m_of_wz, m_wz_of, m_tk_wz, m_wz_tk, g_wz, (hS.hear (by omega) (by omega)), (Nat.le_refl _)⟩
      replace s113 : a43.eval (.tmp 113) = .bool false := (s113).trans (congrArg Value.bool (decide_eq_false hc84))
      refine c_false s113 ?_
      refine wp_skip ?_
      exact jK68 _ _ D _ _ ⟨p43.s, s0, s2, s3, s4, s5, s6, s7, s8, s12, s38, s70, hB, h_q8, h_q12, o_of, o_tk, o_wz, d_wz_q8, d_wz_q12, m_of_wz, m_wz_of, m_tk_wz, m_wz_tk, g_wz, hS, hDT1⟩
    clear hK30
    refine wp_seq_k fun K89 hK89 => ?_
    have hk60 : k < 60 := by omega
    have hak := atN_le bs k
    refine wp_region_lit ?_
    refine q_v p23.s rfl rfl rfl (g_move rfl s6 ?_)
    intro a24 p24
    refine q_v p24.s rfl rfl rfl (g_len (e := _) rfl Try.underlying43 p24.v ?_)
    intro a25 p25
    refine q_v p25.s rfl rfl rfl (g_lss rfl p25.v rfl ?_)
    intro a26 p26
    refine q_v p26.s rfl rfl rfl (g_move rfl p26.v ?_)
    intro a27 p27
    by_cases hc90 : ((N : Nat) : Int) < 30
    · have s43 : a26.eval (.tmp 43) = .bool true := (p26.v).trans (congrArg Value.bool (decide_eq_true hc90))
      have s44 : a27.eval (.tmp 44) = .bool true := (p27.v).trans (congrArg Value.bool (decide_eq_true hc90))
      refine q_t p27.s rfl rfl s44 rfl rfl (g_move rfl (p27.k (p26.k (p25.k (p24.k s0 rfl) rfl) rfl) rfl) ?_)
      intro a28 p28
      refine q_t p28.s rfl rfl (p28.k s44 rfl) rfl rfl (g_move rfl (p28.k (p27.k (p26.k (p25.k (p24.k s8 rfl) rfl) rfl) rfl) rfl) ?_)
      intro a29 p29
      refine q_t p29.s rfl rfl (p29.k (p28.k s44 rfl) rfl) rfl rfl ?_
      refine g_call rfl rfl Try.call28 (arr2 (p29.k p28.v rfl) p29.v) ?_
      refine (at_nat hlen hnc hcm (hr_cc.below hB) k (by omega)).mono ?_
      rintro e w' ⟨rfl, rfl⟩
      refine ⟨_, rfl, ?_⟩
      intro a30 p30
      refine q_t p30.s rfl rfl (p30.k (p29.k (p28.k s44 rfl) rfl) rfl) rfl rfl (g_rem (N := atN bs k) (M := 2) rfl p30.v rfl (by omega) rfl (by decide) (by decide) ?_)
      intro a31 p31
      refine q_t p31.s rfl rfl (p31.k (p30.k (p29.k (p28.k s44 rfl) rfl) rfl) rfl) rfl rfl (g_eql rfl p31.v rfl ?_)
      intro a32 p32
      refine q_v p32.s rfl rfl rfl (g_pick_t rfl (p32.k (p31.k (p30.k (p29.k (p28.k s44 rfl) rfl) rfl) rfl) rfl) p32.v ?_)
      intro a33 p33
      have s50 : a33.eval (.tmp 50) = .bool (decide ((((atN bs k) % 2 : Nat) : Int) = 0)) := p33.v
      refine wpList_nil ?_
      have kc23 := ((((((((((Kps.nil a23).u p24).u p25).u p26).u p27).u p28).u p29).u p30).u p31).u p32).u p33
      replace s0 := kc23.k s0 rfl
      replace s2 := kc23.k s2 rfl
      replace s3 := kc23.k s3 rfl
      replace s4 := kc23.k s4 rfl
      replace s5 := kc23.k s5 rfl
      replace s6 := kc23.k s6 rfl
      replace s7 := kc23.k s7 rfl
      replace s8 := kc23.k s8 rfl
      replace s38 := kc23.k s38 rfl
      clear kc23
      refine hK89 _ _ ?_
      clear hK89
      by_cases hc91 : (((atN bs k) % 2 : Nat) : Int) = 0
      · replace s50 : a33.eval (.tmp 50) = .bool true := (s50).trans (congrArg Value.bool (decide_eq_true hc91))
        refine c_true s50 ?_
        refine wp_seq_k fun K92 hK92 => ?_
        obtain ⟨L1, b1, hS1, hbt, hbf, hOf⟩ := offer_ex hS (by omega) (fmtN_len k (by omega))
        have hs := p33.s
        refine wp_drawn (n := 212) [6, 9] [8] [] (fun k_ v_ wx => match k_ with | 0 => v_ = .agg #[.int .i64 ((L.length : Nat) : Int), .int .i64 wd, .slice wA ((wtL L D).length) wc, .int .i64 ((D : Nat) : Int)] | 1 => v_ = .int .i64 ((k : Nat) : Int) | 2 => v_ = .string ⟨(fmtN k).toArray⟩ | 3 => ∃ (A94 : Option Addr) (c94 : Nat), v_ = .tuple #[.agg #[.int .i64 ((L1.length : Nat) : Int), .int .i64 wd, .slice A94 ((wtL L1 D).length) c94, .int .i64 ((D : Nat) : Int)], .bool b1] ∧ ((wx).ownsRow w24.heap.size 80 2 (.slice A94 ((wtL L1 D).length) c94) ((wtL L1 D).length) ((wtL L1 D).flatMap cSent)) | 4 => ∃ (A94_r95 : Option Addr) (c94_r95 : Nat), v_ = .tuple #[.agg #[.int .i64 ((L1.length : Nat) : Int), .int .i64 wd, .slice A94_r95 ((wtL L1 D).length) c94_r95, .int .i64 ((D : Nat) : Int)], .bool b1] ∧ ((wx).ownsRow w24.heap.size 80 2 (.slice A94_r95 ((wtL L1 D).length) c94_r95) ((wtL L1 D).length) ((wtL L1 D).flatMap cSent)) | 5 => ∃ (A94_r95_r96 : Option Addr) (c94_r95_r96 : Nat), v_ = .agg #[.int .i64 ((L1.length : Nat) : Int), .int .i64 wd, .slice A94_r95_r96 ((wtL L1 D).length) c94_r95_r96, .int .i64 ((D : Nat) : Int)] ∧ ((wx).ownsRow w24.heap.size 80 2 (.slice A94_r95_r96 ((wtL L1 D).length) c94_r95_r96) ((wtL L1 D).length) ((wtL L1 D).flatMap cSent)) | 6 => v_ = .bool b1 | 7 => ∃ q97, v_ = .pointer (some ⟨q97, 0, none⟩) ∧ w24.heap.size ≤ q97 ∧ wx.heap[q97]? = some (.cells #[.int .i64 0, .int .i64 0, .slice none 0 0, .int .i64 0] 39 (0, 0)) | 9 => v_ = .bool b1 | _ => True) (by kernel_rfl) (by kernel_rfl) (by kernel_rfl) (by kernel_rfl) hs.size ?_ ?_ ?_
        · intro i v wa wb hb hr
          rcases i with _ | _ | _ | _ | _ | _ | _ | _ | _ | _ | i
          · exact hr
          · exact hr
          · exact hr
          · obtain ⟨A94, c94, hr, o_x94⟩ := hr; exact ⟨A94, c94, hr, own_below o_x94 hb⟩
          · obtain ⟨A94_r95, c94_r95, hr, o_r95⟩ := hr; exact ⟨A94_r95, c94_r95, hr, own_below o_r95 hb⟩
          · obtain ⟨A94_r95_r96, c94_r95_r96, hr, o_r96⟩ := hr; exact ⟨A94_r95_r96, c94_r95_r96, hr, own_below o_r96 hb⟩
          · exact hr
          · obtain ⟨q97, hr, hg, hh⟩ := hr; exact ⟨q97, hr, hg, keep_below hh hb⟩
          · trivial
          · exact hr
          · trivial
        · refine d_step rfl rfl ?_ (d_step rfl rfl ?_ (d_step rfl rfl ?_ (d_step rfl rfl ?_ (d_step rfl rfl ?_ (d_step rfl rfl ?_ (d_late rfl rfl ?_ (d_step rfl rfl ?_ (d_chain rfl (d_late rfl rfl ?_ (d_nil))))))))))
          · intro xv_ wx ρ hρ hwx hd K hK
            have e3 : ρ (.tmp 3) = .pointer (some ⟨q8, 0, none⟩) := (hρ.inn 3 rfl).trans s3
            have h_q8 := keep_below h_q8 hwx
            refine g_loadB rfl e3 Try.isAgg39 Try.sizeOf39 rfl h_q8 ?_
            exact hK _ _ (Below.refl _ _) rfl
          · intro xv_ wx ρ hρ hwx hd K hK
            have e8 : ρ (.tmp 8) = .int .i64 ((k : Nat) : Int) := (hρ.inn 8 rfl).trans s8
            refine g_move rfl e8 ?_
            exact hK _ _ (Below.refl _ _) rfl
          · intro xv_ wx ρ hρ hwx hd K hK
            have e53 := (out2 hρ hs 1 53 rfl rfl rfl).trans (hd 1 rfl)
            refine g_call rfl (hρ.fn _) Try.call30 (arr1 e53) ?_
            refine (formatInt_any _ (by omega)).mono ?_
            rintro e wy ⟨rfl, hb93⟩
            exact ⟨_, rfl, hK _ _ hb93 rfl⟩
          · intro xv_ wx ρ hρ hwx hd K hK
            have e52 := (out2 hρ hs 0 52 rfl rfl rfl).trans (hd 0 rfl)
            have e54 := (out2 hρ hs 2 54 rfl rfl rfl).trans (hd 2 rfl)
            refine g_call rfl (hρ.fn _) Try.call29 (arr2 e52 e54) ?_
            refine (hOf _ rfl ((Rd.of_own o_wz).below hwx)).mono ?_
            rintro e wy ⟨A94, c94, rfl, o_x94, hb94⟩
            exact ⟨_, rfl, hK _ _ hb94 ⟨A94, c94, rfl, own_base o_x94 hwx.size⟩⟩
          · intro xv_ wx ρ hρ hwx hd K hK
            obtain ⟨A94, c94, r3, o_x94⟩ : ∃ (A94 : Option Addr) (c94 : Nat), xv_ 3 = .tuple #[.agg #[.int .i64 ((L1.length : Nat) : Int), .int .i64 wd, .slice A94 ((wtL L1 D).length) c94, .int .i64 ((D : Nat) : Int)], .bool b1] ∧ ((wx).ownsRow w24.heap.size 80 2 (.slice A94 ((wtL L1 D).length) c94) ((wtL L1 D).length) ((wtL L1 D).flatMap cSent)) := hd 3 rfl
            have e55 : ρ (.tmp 55) = .tuple #[.agg #[.int .i64 ((L1.length : Nat) : Int), .int .i64 wd, .slice A94 ((wtL L1 D).length) c94, .int .i64 ((D : Nat) : Int)], .bool b1] := (hρ.out 3 55 rfl (by rw [hs.size]; decide) rfl).trans r3
            refine g_move rfl e55 ?_
            exact hK _ _ (Below.refl _ _) ⟨A94, c94, rfl, o_x94⟩
          · intro xv_ wx ρ hρ hwx hd K hK
            obtain ⟨A94_r95, c94_r95, r4, o_r95⟩ : ∃ (A94_r95 : Option Addr) (c94_r95 : Nat), xv_ 4 = .tuple #[.agg #[.int .i64 ((L1.length : Nat) : Int), .int .i64 wd, .slice A94_r95 ((wtL L1 D).length) c94_r95, .int .i64 ((D : Nat) : Int)], .bool b1] ∧ ((wx).ownsRow w24.heap.size 80 2 (.slice A94_r95 ((wtL L1 D).length) c94_r95) ((wtL L1 D).length) ((wtL L1 D).flatMap cSent)) := hd 4 rfl
            have e51 : ρ (.tmp 51) = .tuple #[.agg #[.int .i64 ((L1.length : Nat) : Int), .int .i64 wd, .slice A94_r95 ((wtL L1 D).length) c94_r95, .int .i64 ((D : Nat) : Int)], .bool b1] := (hρ.out 4 51 rfl (by rw [hs.size]; decide) rfl).trans r4
            refine g_extract rfl e51 rfl ?_
            exact hK _ _ (Below.refl _ _) ⟨A94_r95, c94_r95, rfl, o_r95⟩
          · intro xv_ wx ρ hρ hwx hd
            obtain ⟨A94_r95, c94_r95, r4, o_r95⟩ : ∃ (A94_r95 : Option Addr) (c94_r95 : Nat), xv_ 4 = .tuple #[.agg #[.int .i64 ((L1.length : Nat) : Int), .int .i64 wd, .slice A94_r95 ((wtL L1 D).length) c94_r95, .int .i64 ((D : Nat) : Int)], .bool b1] ∧ ((wx).ownsRow w24.heap.size 80 2 (.slice A94_r95 ((wtL L1 D).length) c94_r95) ((wtL L1 D).length) ((wtL L1 D).flatMap cSent)) := hd 4 rfl rfl
            have e51 : ρ (.tmp 51) = .tuple #[.agg #[.int .i64 ((L1.length : Nat) : Int), .int .i64 wd, .slice A94_r95 ((wtL L1 D).length) c94_r95, .int .i64 ((D : Nat) : Int)], .bool b1] := (hρ.out 4 51 rfl (by rw [hs.size]; decide) rfl).trans r4
            exact ⟨_, fun w' => l_extract rfl e51 rfl, rfl⟩
          · intro xv_ wx ρ hρ hwx hd K hK
            refine g_alloc rfl Try.zeroValue39 rfl ?_
            intro q w' N
            exact hK _ _ N.below ⟨q, rfl, Nat.le_trans hwx.size N.lo, N.here⟩
          · intro xv_ wx ρ hρ hwx hd
            have e57 := (out2 hρ hs 6 57 rfl rfl rfl).trans (hd 6 rfl rfl)
            exact ⟨_, fun w' => l_assign rfl e57, rfl⟩
        · intro x0_ w98 hb_w98 hr0
          obtain ⟨A94, c94, r3, o_x94⟩ : ∃ (A94 : Option Addr) (c94 : Nat), x0_ 3 = .tuple #[.agg #[.int .i64 ((L1.length : Nat) : Int), .int .i64 wd, .slice A94 ((wtL L1 D).length) c94, .int .i64 ((D : Nat) : Int)], .bool b1] ∧ ((w98).ownsRow w24.heap.size 80 2 (.slice A94 ((wtL L1 D).length) c94) ((wtL L1 D).length) ((wtL L1 D).flatMap cSent)) := hr0 3 (by decide) rfl rfl
          obtain ⟨A94_r95, c94_r95, r4, o_r95⟩ : ∃ (A94_r95 : Option Addr) (c94_r95 : Nat), x0_ 4 = .tuple #[.agg #[.int .i64 ((L1.length : Nat) : Int), .int .i64 wd, .slice A94_r95 ((wtL L1 D).length) c94_r95, .int .i64 ((D : Nat) : Int)], .bool b1] ∧ ((w98).ownsRow w24.heap.size 80 2 (.slice A94_r95 ((wtL L1 D).length) c94_r95) ((wtL L1 D).length) ((wtL L1 D).flatMap cSent)) := hr0 4 (by decide) rfl rfl
          obtain ⟨A94_r95_r96, c94_r95_r96, r5, o_r96⟩ : ∃ (A94_r95_r96 : Option Addr) (c94_r95_r96 : Nat), x0_ 5 = .agg #[.int .i64 ((L1.length : Nat) : Int), .int .i64 wd, .slice A94_r95_r96 ((wtL L1 D).length) c94_r95_r96, .int .i64 ((D : Nat) : Int)] ∧ ((w98).ownsRow w24.heap.size 80 2 (.slice A94_r95_r96 ((wtL L1 D).length) c94_r95_r96) ((wtL L1 D).length) ((wtL L1 D).flatMap cSent)) := hr0 5 (by decide) rfl rfl
          obtain ⟨q97, r7, g0_q97, h_q97⟩ : ∃ q97, x0_ 7 = .pointer (some ⟨q97, 0, none⟩) ∧ w24.heap.size ≤ q97 ∧ w98.heap[q97]? = some (.cells #[.int .i64 0, .int .i64 0, .slice none 0 0, .int .i64 0] 39 (0, 0)) := hr0 7 (by decide) rfl rfl
          have d_r96_q8 := own_ne_box o_r96 (lt_of_block h_q8)
          have d_r96_q12 := own_ne_box o_r96 (lt_of_block h_q12)
          have m_of_r96 := own_ne_row o_of o_r96 (Nat.le_refl _)
          have m_r96_of := ne_row_symm m_of_r96
          have m_tk_r96 := own_ne_row o_tk o_r96 (Nat.le_refl _)
          have m_r96_tk := ne_row_symm m_tk_r96
          have g_r96 : ∀ b, (A94_r95_r96 : Option Addr).map (·.block) = some b → w.heap.size ≤ b := fun b h => Nat.le_trans hB.size (own_row o_r96 b h).1
          replace o_r96 := own_base (base := w.heap.size) o_r96 hB.size
          have n_q8_q97 : NeB q8 q97 := ⟨fun e => by have := lt_of_block h_q8; omega⟩
          have n_q97_q8 := n_q8_q97.symm
          have n_q12_q97 : NeB q12 q97 := ⟨fun e => by have := lt_of_block h_q12; omega⟩
          have n_q97_q12 := n_q12_q97.symm
          have d_of_q97 := own_ne o_of (.inr g0_q97)
          have d_tk_q97 := own_ne o_tk (.inr g0_q97)
          have d_wz_q97 := own_ne o_wz (.inr g0_q97)
          have g_q97 : GeB w.heap.size q97 := ⟨Nat.le_trans hB.size g0_q97⟩
          clear g0_q97
          have d_r96_q97 := own_ne_cells o_r96 h_q97 (by decide)
          replace h_q8 := keep_below h_q8 hb_w98
          replace h_q12 := keep_below h_q12 hb_w98
          replace o_of := own_below o_of hb_w98
          replace o_tk := own_below o_tk hb_w98
          replace o_wz := own_below o_wz hb_w98
          replace hB := hB.trans (hb_w98.mono hB.size)
          clear hb_w98
          intro op_ ho_ xv_ ρ hρ qx_ ql_ qk_
          obtain rfl := Option.some.inj ho_
          clear ho_
          have e9 : ρ (.tmp 9) = .pointer (some ⟨q97, 0, none⟩) := (hρ.out 7 9 rfl (by rw [hs.size]; decide) rfl).trans ((qx_ 7 (by decide) rfl rfl).trans r7)
          have e56 : ρ (.tmp 56) = .agg #[.int .i64 ((L1.length : Nat) : Int), .int .i64 wd, .slice A94_r95_r96 ((wtL L1 D).length) c94_r95_r96, .int .i64 ((D : Nat) : Int)] := (hρ.out 5 56 rfl (by rw [hs.size]; decide) rfl).trans ((qx_ 5 (by decide) rfl rfl).trans r5)
          refine g_storeB rfl e9 e56 Try.sizeOf39 rfl rfl h_q97 rfl ?_
          intro w99 W_w99
          replace h_q8 := keep_wrote h_q8 W_w99 n_q97_q8
          replace h_q12 := keep_wrote h_q12 W_w99 n_q97_q12
          replace h_q97 := W_w99.here
          replace o_of := own_wrote o_of W_w99 d_of_q97
          replace o_tk := own_wrote o_tk W_w99 d_tk_q97
          replace o_wz := own_wrote o_wz W_w99 d_wz_q97
          replace o_r96 := own_wrote o_r96 W_w99 d_r96_q97
          replace hB := below_wrote hB hB.size W_w99 g_q97.le
          clear W_w99
          clear e56 e9
          clear hρ qx_ ql_ qk_
          intro xv_ a34 hρ hsz hdf qx_ ql_ qk_ qlk_
          replace s0 : a34.eval (.tmp 0) = .slice A n c := (hρ.inn 0 rfl).trans s0
          replace s2 : a34.eval (.tmp 2) = .bool false := (hρ.inn 2 rfl).trans s2
          replace s3 : a34.eval (.tmp 3) = .pointer (some ⟨q8, 0, none⟩) := (hρ.inn 3 rfl).trans s3
          replace s4 : a34.eval (.tmp 4) = .bool true := (hρ.inn 4 rfl).trans s4
          replace s5 : a34.eval (.tmp 5) = .pointer (some ⟨q12, 0, none⟩) := (hρ.inn 5 rfl).trans s5
          replace s6 : a34.eval (.tmp 6) = .slice oA N oc := (hρ.inn 6 rfl).trans s6
          replace s7 : a34.eval (.tmp 7) = .slice tA T tc := (hρ.inn 7 rfl).trans s7
          replace s8 : a34.eval (.tmp 8) = .int .i64 ((k : Nat) : Int) := (hρ.inn 8 rfl).trans s8
          have s9 : a34.eval (.tmp 9) = .pointer (some ⟨q97, 0, none⟩) := (hρ.out 7 9 rfl (by rw [hs.size]; decide)).trans ((qx_ 7 (by decide) rfl rfl).trans r7)
          have s10 : a34.eval (.tmp 10) = .bool b1 := (hρ.out 9 10 rfl (by rw [hs.size]; decide)).trans (ql_ 9 (by decide) rfl)
          replace s38 : a34.eval (.tmp 38) = .bool true := (hρ.inn 38 rfl).trans s38
          replace s50 : a34.eval (.tmp 50) = .bool true := (hρ.inn 50 rfl).trans s50
          replace hs : St 212 a34 := ⟨hsz.trans hs.size, hdf.trans hs.nodef⟩
          clear hρ hsz hdf qx_ ql_ qk_ qlk_
          refine hK92 _ _ ?_
          clear hK92
          refine wp_seq_k fun K100 hK100 => ?_
          refine wp_seq_k fun K101 hK101 => ?_
          refine wp_region_lit ?_
          refine q_v hs rfl rfl rfl (g_move rfl s10 ?_)
          intro a35 p35
          refine wpList_nil ?_
          replace s0 := p35.k s0 rfl
          replace s2 := p35.k s2 rfl
          replace s3 := p35.k s3 rfl
          replace s4 := p35.k s4 rfl
          replace s5 := p35.k s5 rfl
          replace s6 := p35.k s6 rfl
          replace s7 := p35.k s7 rfl
          replace s8 := p35.k s8 rfl
          replace s9 := p35.k s9 rfl
          replace s10 := p35.k s10 rfl
          replace s38 := p35.k s38 rfl
          replace s50 := p35.k s50 rfl
          replace s58 := p35.v
          refine hK101 _ _ ?_
          clear hK101
          cases hb1 : b1
          · replace s10 : a35.eval (.tmp 10) = .bool false := (s10).trans (congrArg Value.bool hb1)
            replace s58 : a35.eval (.tmp 58) = .bool false := (s58).trans (congrArg Value.bool hb1)
            refine c_false s58 ?_
            refine wp_skip ?_
            refine hK100 _ _ ?_
            clear hK100
            refine wp_region_lit ?_
            refine q_v p35.s rfl rfl rfl (g_loadB rfl s9 Try.isAgg39 Try.sizeOf39 rfl h_q97 ?_)
            intro a36 p36
            refine q_eff rfl rfl ?_
            refine g_storeB rfl (p36.k s3 rfl) p36.v Try.sizeOf39 rfl rfl h_q8 rfl ?_
            intro w102 W_w102
            replace h_q8 := W_w102.here
            replace h_q12 := keep_wrote h_q12 W_w102 n_q8_q12
            replace h_q97 := keep_wrote h_q97 W_w102 n_q8_q97
            replace o_of := own_wrote o_of W_w102 d_of_q8
            replace o_tk := own_wrote o_tk W_w102 d_tk_q8
            replace o_wz := own_wrote o_wz W_w102 d_wz_q8
            replace o_r96 := own_wrote o_r96 W_w102 d_r96_q8
            replace hB := below_wrote hB hB.size W_w102 g_q8.le
            clear W_w102
            refine wpList_nil ?_
            replace s0 := p36.k s0 rfl
            replace s2 := p36.k s2 rfl
            replace s3 := p36.k s3 rfl
            replace s4 := p36.k s4 rfl
            replace s5 := p36.k s5 rfl
            replace s6 := p36.k s6 rfl
            replace s7 := p36.k s7 rfl
            replace s8 := p36.k s8 rfl
            replace s9 := p36.k s9 rfl
            replace s10 := p36.k s10 rfl
            replace s38 := p36.k s38 rfl
            replace s50 := p36.k s50 rfl
            replace s58 := p36.k s58 rfl
            have hLe := hbf hb1
            subst hLe
            have o_wz := o_r96
            have g_wz := g_r96
            have d_wz_q8 := d_r96_q8
            have d_wz_q12 := d_r96_q12
            have m_of_wz := m_of_r96
            have m_wz_of := m_r96_of
            have m_tk_wz := m_tk_r96
            have m_wz_tk := m_r96_tk
            exact jK30 _ _ L N _ _ _ _ ⟨p36.s, s0, s2, s3, s4, s5, s6, s7, s8, s38, hB, h_q8, h_q12, o_of, o_tk, o_wz, d_wz_q8, d_wz_q12, m_of_wz, m_tk_wz, g_wz, d_of_q8, d_of_q12, m_tk_of, m_wz_of, g_of, d_tk_q8, d_tk_q12, m_of_tk, m_wz_tk, g_tk, hS1, hN, (by omega)⟩
          replace s10 : a35.eval (.tmp 10) = .bool true := (s10).trans (congrArg Value.bool hb1)
          replace s58 : a35.eval (.tmp 58) = .bool true := (s58).trans (congrArg Value.bool hb1)
          refine c_true s58 ?_
          refine wp_region_lit ?_
          refine q_v p35.s rfl rfl rfl (g_move rfl s6 ?_)
          intro a36 p36
          refine q_v p36.s rfl rfl rfl (g_move rfl (p36.k s8 rfl) ?_)
          intro a37 p37
          refine q_v p37.s rfl rfl rfl ?_
          refine g_call rfl rfl Try.call30 (arr1 p37.v) ?_
          refine (formatInt_any _ (by omega)).mono ?_
          rintro e w104 ⟨rfl, hb103⟩
          refine ⟨_, rfl, ?_⟩
          replace h_q8 := keep_below h_q8 hb103
          replace h_q12 := keep_below h_q12 hb103
          replace h_q97 := keep_below h_q97 hb103
          replace o_of := own_below o_of hb103
          replace o_tk := own_below o_tk hb103
          replace o_wz := own_below o_wz hb103
          replace o_r96 := own_below o_r96 hb103
          replace hB := hB.trans (hb103.mono hB.size)
          clear hb103
          intro a38 p38
          refine q_v p38.s rfl rfl rfl ?_
          refine g_bslice1 (cs := #[.string ⟨(fmtN k).toArray⟩]) rfl Try.underlying43 Try.sizeOf9 Try.zeroValue9 p38.v (by kernel_rfl) rfl (by decide) ?_
          intro q105 w106 N_q105
          replace h_q8 := keep_below h_q8 N_q105.below
          replace h_q12 := keep_below h_q12 N_q105.below
          replace h_q97 := keep_below h_q97 N_q105.below
          replace o_of := own_below o_of N_q105.below
          replace o_tk := own_below o_tk N_q105.below
          replace o_wz := own_below o_wz N_q105.below
          replace o_r96 := own_below o_r96 N_q105.below
          replace hB := below_new hB hB.size N_q105
          have h_q105 := N_q105.here
          clear N_q105
          intro a39 p39
          refine q_v p39.s rfl rfl rfl ?_
          refine g_append (n' := N + 1) (ys := (L ++ [fmtN k]).flatMap cS) w.heap.size (.string ⟨#[]⟩) 1 16 rfl (p39.k (p38.k (p37.k p36.v rfl) rfl) rfl) p39.v Try.underlying43 infoStrB rfl (by decide) o_of (fun h => by cases h) (rd_box (xs := ([fmtN k]).flatMap cS) h_q105 rfl rfl) (flatS_one _) (by omega) hB.size (by decide) (by omega) (by first | rfl | simp [List.flatMap_append] | (simp [List.flatMap_append, cS]; done)) ?_
          intro A_r107 c_r107 w108 P_r107
          have d_r107_q8 := P_r107.ne d_of_q8 (lt_of_block h_q8)
          have d_r107_q12 := P_r107.ne d_of_q12 (lt_of_block h_q12)
          have m_tk_r107 := P_r107.row m_tk_of o_tk
          have m_r107_tk := ne_row_symm m_tk_r107
          have m_r96_r107 := P_r107.row m_r96_of o_r96
          have m_r107_r96 := ne_row_symm m_r96_r107
          have g_r107 := P_r107.ge g_of hB.size
          replace h_q8 := keep_grown h_q8 P_r107.grown d_of_q8
          replace h_q12 := keep_grown h_q12 P_r107.grown d_of_q12
          replace h_q97 := keep_grown h_q97 P_r107.grown d_of_q97
          replace o_tk := own_grown o_tk P_r107.grown m_tk_of
          replace o_wz := own_grown o_wz P_r107.grown m_wz_of
          replace o_r96 := own_grown o_r96 P_r107.grown m_r96_of
          replace hB := below_grown hB hB.size P_r107.grown g_of
          have o_r107 := P_r107.own
          clear P_r107
          intro a40 p40
          refine q_v p40.s rfl rfl rfl (g_assign rfl p40.v ?_)
          intro a41 p41
          refine wpList_nil ?_
          have kc35 := ((((((Kps.nil a35).u p36).u p37).u p38).u p39).u p40).u p41
          replace s0 := kc35.k s0 rfl
          replace s2 := kc35.k s2 rfl
          replace s3 := kc35.k s3 rfl
          replace s4 := kc35.k s4 rfl
          replace s5 := kc35.k s5 rfl
          replace s6 := p41.v
          replace s7 := kc35.k s7 rfl
          replace s8 := kc35.k s8 rfl
          replace s9 := kc35.k s9 rfl
          replace s10 := kc35.k s10 rfl
          replace s38 := kc35.k s38 rfl
          replace s50 := kc35.k s50 rfl
          replace s58 := kc35.k s58 rfl
          clear kc35
          refine hK100 _ _ ?_
          clear hK100
          refine wp_region_lit ?_
          refine q_v p41.s rfl rfl rfl (g_loadB rfl s9 Try.isAgg39 Try.sizeOf39 rfl h_q97 ?_)
          intro a42 p42
          refine q_eff rfl rfl ?_
          refine g_storeB rfl (p42.k s3 rfl) p42.v Try.sizeOf39 rfl rfl h_q8 rfl ?_
          intro w109 W_w109
          replace h_q8 := W_w109.here
          replace h_q12 := keep_wrote h_q12 W_w109 n_q8_q12
          replace o_tk := own_wrote o_tk W_w109 d_tk_q8
          replace o_wz := own_wrote o_wz W_w109 d_wz_q8
          replace o_r96 := own_wrote o_r96 W_w109 d_r96_q8
          replace o_r107 := own_wrote o_r107 W_w109 d_r107_q8
          replace hB := below_wrote hB hB.size W_w109 g_q8.le
          clear W_w109
          refine wpList_nil ?_
          replace s0 := p42.k s0 rfl
          replace s2 := p42.k s2 rfl
          replace s3 := p42.k s3 rfl
          replace s4 := p42.k s4 rfl
          replace s5 := p42.k s5 rfl
          replace s6 := p42.k s6 rfl
          replace s7 := p42.k s7 rfl
          replace s8 := p42.k s8 rfl
          replace s9 := p42.k s9 rfl
          replace s10 := p42.k s10 rfl
          replace s38 := p42.k s38 rfl
          replace s50 := p42.k s50 rfl
          replace s58 := p42.k s58 rfl
          have hLe := hbt hb1
          subst hLe
          have hTe : L.take T = (L ++ [fmtN k]).take T := (List.take_append_of_le_length (by omega)).symm
          rw [hTe] at o_tk
          have o_of := o_r107
          have g_of := g_r107
          have d_of_q8 := d_r107_q8
          have d_of_q12 := d_r107_q12
          have m_tk_of := m_tk_r107
          have m_of_tk := m_r107_tk
          have m_wz_of := m_r96_r107
          have m_of_wz := m_r107_r96
          have o_wz := o_r96
          have g_wz := g_r96
          have d_wz_q8 := d_r96_q8
          have d_wz_q12 := d_r96_q12
          have m_of_wz := m_r107_r96
          have m_wz_of := m_r96_r107
          have m_tk_wz := m_tk_r96
          have m_wz_tk := m_r96_tk
          exact jK30 _ _ (L ++ [fmtN k]) (N + 1) _ _ _ _ ⟨p42.s, s0, s2, s3, s4, s5, s6, s7, s8, s38, hB, h_q8, h_q12, o_of, o_tk, o_wz, d_wz_q8, d_wz_q12, m_of_wz, m_tk_wz, g_wz, d_of_q8, d_of_q12, m_tk_of, m_wz_of, g_of, d_tk_q8, d_tk_q12, m_of_tk, m_wz_tk, g_tk, hS1, (by rw [List.length_append, hN]; rfl), (by omega)⟩
      replace s50 : a33.eval (.tmp 50) = .bool false := (s50).trans (congrArg Value.bool (decide_eq_false hc91))
      refine c_false s50 ?_
      refine wp_skip ?_
      exact jK30 _ _ L N _ _ _ _ ⟨p33.s, s0, s2, s3, s4, s5, s6, s7, s8, s38, hB, h_q8, h_q12, o_of, o_tk, o_wz, d_wz_q8, d_wz_q12, m_of_wz, m_tk_wz, g_wz, d_of_q8, d_of_q12, m_tk_of, m_wz_of, g_of, d_tk_q8, d_tk_q12, m_of_tk, m_wz_tk, g_tk, hS, hN, (by omega)⟩
    have s43 : a26.eval (.tmp 43) = .bool false := (p26.v).trans (congrArg Value.bool (decide_eq_false hc90))
    have s44 : a27.eval (.tmp 44) = .bool false := (p27.v).trans (congrArg Value.bool (decide_eq_false hc90))
    refine q_s p27.s rfl rfl s44 rfl rfl ?_
    intro a28 p28
    refine q_s p28.s rfl rfl (p28.k s44 rfl) rfl rfl ?_
    intro a29 p29
    refine q_s p29.s rfl rfl (p29.k (p28.k s44 rfl) rfl) rfl rfl ?_
    intro a30 p30
    refine q_s p30.s rfl rfl (p30.k (p29.k (p28.k s44 rfl) rfl) rfl) rfl rfl ?_
    intro a31 p31
    refine q_s p31.s rfl rfl (p31.k (p30.k (p29.k (p28.k s44 rfl) rfl) rfl) rfl) rfl rfl ?_
    intro a32 p32
    refine q_v p32.s rfl rfl rfl (g_pick_f rfl (p32.k (p31.k (p30.k (p29.k (p28.k s44 rfl) rfl) rfl) rfl) rfl) rfl ?_)
    intro a33 p33
    have s50 : a33.eval (.tmp 50) = .bool false := p33.v
    refine wpList_nil ?_
    have kc23 := ((((((((((Kps.nil a23).u p24).u p25).u p26).u p27).u p28).u p29).u p30).u p31).u p32).u p33
    replace s0 := kc23.k s0 rfl
    replace s2 := kc23.k s2 rfl
    replace s3 := kc23.k s3 rfl
    replace s4 := kc23.k s4 rfl
    replace s5 := kc23.k s5 rfl
    replace s6 := kc23.k s6 rfl
    replace s7 := kc23.k s7 rfl
    replace s8 := kc23.k s8 rfl
    replace s38 := kc23.k s38 rfl
    clear kc23
    refine hK89 _ _ ?_
    clear hK89
    refine c_false s50 ?_
    refine wp_skip ?_
    exact jK30 _ _ L N _ _ _ _ ⟨p33.s, s0, s2, s3, s4, s5, s6, s7, s8, s38, hB, h_q8, h_q12, o_of, o_tk, o_wz, d_wz_q8, d_wz_q12, m_of_wz, m_tk_wz, g_wz, d_of_q8, d_of_q12, m_tk_of, m_wz_of, g_of, d_tk_q8, d_tk_q12, m_of_tk, m_wz_tk, g_tk, hS, hN, (by omega)⟩
  replace s38 : a23.eval (.tmp 38) = .bool false := (s38).trans (congrArg Value.bool (decide_eq_false hc28))
  refine c_false s38 ?_
  refine wp_exit ?_
  refine hK21 _ _ ?_
  clear hK21
  refine wp_seq_k fun K110 hK110 => ?_
  refine wp_region_lit ?_
  refine q_v p23.s rfl rfl rfl (g_loadB rfl s3 Try.isAgg39 Try.sizeOf39 rfl h_q8 ?_)
  intro a24 p24
  refine q_v p24.s rfl rfl rfl ?_
  refine g_alloc rfl Try.zeroValue39 rfl ?_
  intro q111 w112 N_q111
  have n_q12_q111 := N_q111.ne ⟨lt_of_block h_q12⟩
  have n_q111_q12 := n_q12_q111.symm
  have d_of_q111 := own_ne_new o_of N_q111
  have d_tk_q111 := own_ne_new o_tk N_q111
  have d_wz_q111 := own_ne_new o_wz N_q111
  have g_q111 : GeB w.heap.size q111 := ⟨Nat.le_trans hB.size N_q111.lo⟩
  replace h_q12 := keep_below h_q12 N_q111.below
  replace o_of := own_below o_of N_q111.below
  replace o_tk := own_below o_tk N_q111.below
  replace o_wz := own_below o_wz N_q111.below
  replace hB := below_new hB hB.size N_q111
  have h_q111 := N_q111.here
  clear N_q111
  intro a25 p25
  refine q_eff rfl rfl ?_
  refine g_storeB rfl p25.v (p25.k p24.v rfl) Try.sizeOf39 rfl rfl h_q111 rfl ?_
  intro w113 W_w113
  replace h_q12 := keep_wrote h_q12 W_w113 n_q111_q12
  replace h_q111 := W_w113.here
  replace o_of := own_wrote o_of W_w113 d_of_q111
  replace o_tk := own_wrote o_tk W_w113 d_tk_q111
  replace o_wz := own_wrote o_wz W_w113 d_wz_q111
  replace hB := below_wrote hB hB.size W_w113 g_q111.le
  clear W_w113
  refine wpList_nil ?_
  replace s2 := p25.k (p24.k s2 rfl) rfl
  replace s4 := p25.k (p24.k s4 rfl) rfl
  replace s5 := p25.k (p24.k s5 rfl) rfl
  replace s6 := p25.k (p24.k s6 rfl) rfl
  replace s7 := p25.k (p24.k s7 rfl) rfl
  replace s17 := p25.v
  refine hK110 _ _ ?_
  clear hK110
  refine wp_seq_k fun K114 hK114 => ?_
  refine wp_seq_k fun K115 hK115 => ?_
  refine wp_region_lit ?_
  refine q_v p25.s rfl rfl rfl (g_assign rfl rfl ?_)
  intro a26 p26
  have s18 : a26.eval (.tmp 18) = .int .i64 0 := p26.v
  refine wpList_nil ?_
  replace s2 := p26.k s2 rfl
  replace s4 := p26.k s4 rfl
  replace s5 := p26.k s5 rfl
  replace s6 := p26.k s6 rfl
  replace s7 := p26.k s7 rfl
  replace s17 := p26.k s17 rfl
  refine hK115 _ _ ?_
  clear hK115
  refine wp_block ?_
  refine wp_loop (fun a wr => ∃ (q : Nat) (D : Nat) (T : Nat) (ag : Bool) (wA : Option Addr) (wc : Nat) (tA : Option Addr) (tc : Nat), (St 212 a) ∧ (a.eval (.tmp 2) = .bool false) ∧ (a.eval (.tmp 4) = .bool true) ∧ (a.eval (.tmp 5) = .pointer (some ⟨q12, 0, none⟩)) ∧ (a.eval (.tmp 6) = .slice oA N oc) ∧ (a.eval (.tmp 7) = .slice tA T tc) ∧ (a.eval (.tmp 17) = .pointer (some ⟨q111, 0, none⟩)) ∧ (a.eval (.tmp 18) = .int .i64 ((q : Nat) : Int)) ∧ (Below w.heap.size w wr) ∧ (wr.heap[q12]? = some (.cells #[.int .i64 ((T : Nat) : Int), .bool false, .bool ag, .int .i64 ((T : Nat) : Int)] 25 (0, 0))) ∧ (wr.heap[q111]? = some (.cells #[.int .i64 ((L.length : Nat) : Int), .int .i64 wd, .slice wA ((wtL L D).length) wc, .int .i64 ((D : Nat) : Int)] 39 (0, 0))) ∧ (wr.ownsRow w.heap.size 9 1 (.slice oA N oc) N (L.flatMap cS)) ∧ (wr.ownsRow w.heap.size 9 1 (.slice tA T tc) T ((L.take T).flatMap cS)) ∧ (wr.ownsRow w.heap.size 80 2 (.slice wA ((wtL L D).length) wc) ((wtL L D).length) ((wtL L D).flatMap cSent)) ∧ ((wA : Option Addr).map (·.block) ≠ some q12) ∧ ((wA : Option Addr).map (·.block) ≠ some q111) ∧ (∀ b, (oA : Option Addr).map (·.block) = some b → (wA : Option Addr).map (·.block) ≠ some b) ∧ (∀ b, (wA : Option Addr).map (·.block) = some b → (oA : Option Addr).map (·.block) ≠ some b) ∧ (∀ b, (tA : Option Addr).map (·.block) = some b → (wA : Option Addr).map (·.block) ≠ some b) ∧ (∀ b, (wA : Option Addr).map (·.block) = some b → w.heap.size ≤ b) ∧ ((tA : Option Addr).map (·.block) ≠ some q12) ∧ ((tA : Option Addr).map (·.block) ≠ some q111) ∧ (∀ b, (oA : Option Addr).map (·.block) = some b → (tA : Option Addr).map (·.block) ≠ some b) ∧ (∀ b, (tA : Option Addr).map (·.block) = some b → (oA : Option Addr).map (·.block) ≠ some b) ∧ (∀ b, (wA : Option Addr).map (·.block) = some b → (tA : Option Addr).map (·.block) ≠ some b) ∧ (∀ b, (tA : Option Addr).map (·.block) = some b → w.heap.size ≤ b) ∧ (SnG L D wd) ∧ (D ≤ T) ∧ (T ≤ N) ∧ (q = 0 ∨ (T = N ∧ D = N)) ∧ (q ≤ 3)) (fun a _ => 3 - (intOf (a.eval (.tmp 18))).toNat) (⟨0, D, T, ag, wA, wc, tA, tc, p26.s, s2, s4, s5, s6, s7, s17, s18, hB, h_q12, h_q111, o_of, o_tk, o_wz, d_wz_q12, d_wz_q111, m_of_wz, m_wz_of, m_tk_wz, g_wz, d_tk_q12, d_tk_q111, m_of_tk, m_tk_of, m_wz_tk, g_tk, hS, hDT, hTL, (.inl rfl), (Nat.zero_le _)⟩) ?_
  intro a27 w117 hIv
  obtain ⟨q, D, T, ag, wA, wc, tA, tc, hIv⟩ := hIv
  have hs := hIv.1
  replace hIv := hIv.2
  have s2 := hIv.1
  replace hIv := hIv.2
  have s4 := hIv.1
  replace hIv := hIv.2
  have s5 := hIv.1
  replace hIv := hIv.2
  have s6 := hIv.1
  replace hIv := hIv.2
  have s7 := hIv.1
  replace hIv := hIv.2
  have s17 := hIv.1
  replace hIv := hIv.2
  have s18 := hIv.1
  replace hIv := hIv.2
  have hB := hIv.1
  replace hIv := hIv.2
  have h_q12 := hIv.1
  replace hIv := hIv.2
  have h_q111 := hIv.1
  replace hIv := hIv.2
  have o_of := hIv.1
  replace hIv := hIv.2
  have o_tk := hIv.1
  replace hIv := hIv.2
  have o_wz := hIv.1
  replace hIv := hIv.2
  have d_wz_q12 := hIv.1
  replace hIv := hIv.2
  have d_wz_q111 := hIv.1
  replace hIv := hIv.2
  have m_of_wz := hIv.1
  replace hIv := hIv.2
  have m_wz_of := hIv.1
  replace hIv := hIv.2
  have m_tk_wz := hIv.1
  replace hIv := hIv.2
  have g_wz := hIv.1
  replace hIv := hIv.2
  have d_tk_q12 := hIv.1
  replace hIv := hIv.2
  have d_tk_q111 := hIv.1
  replace hIv := hIv.2
  have m_of_tk := hIv.1
  replace hIv := hIv.2
  have m_tk_of := hIv.1
  replace hIv := hIv.2
  have m_wz_tk := hIv.1
  replace hIv := hIv.2
  have g_tk := hIv.1
  replace hIv := hIv.2
  have hS := hIv.1
  replace hIv := hIv.2
  have hDT := hIv.1
  replace hIv := hIv.2
  have hTL := hIv.1
  replace hIv := hIv.2
  have hq := hIv.1
  replace hIv := hIv.2
  have hq3 := hIv
  clear hIv
  have mu118 := s18
  have hSn := hS.n
  have hSw := hS.wn
  refine wp_seq_k fun K119 hK119 => ?_
  refine wp_seq_k fun K120 hK120 => ?_
  refine wp_region_lit ?_
  refine q_v hs rfl rfl rfl (g_move rfl s18 ?_)
  intro a28 p28
  refine q_v p28.s rfl rfl rfl (g_lss rfl p28.v rfl ?_)
  intro a29 p29
  refine wpList_nil ?_
  replace s2 := p29.k (p28.k s2 rfl) rfl
  replace s4 := p29.k (p28.k s4 rfl) rfl
  replace s5 := p29.k (p28.k s5 rfl) rfl
  replace s6 := p29.k (p28.k s6 rfl) rfl
  replace s7 := p29.k (p28.k s7 rfl) rfl
  replace s17 := p29.k (p28.k s17 rfl) rfl
  replace s18 := p29.k (p28.k s18 rfl) rfl
  replace s155 := p29.v
  refine hK120 _ _ ?_
  clear hK120
  by_cases hc121 : ((q : Nat) : Int) < 3
  · replace s155 : a29.eval (.tmp 155) = .bool true := (s155).trans (congrArg Value.bool (decide_eq_true hc121))
    refine c_true s155 ?_
    refine wp_skip ?_
    refine hK119 _ _ ?_
    clear hK119
    refine wp_seq_k fun K122 hK122 => ?_
    refine wp_block ?_
    refine wp_seq_k fun K123 hK123 => ?_
    refine wp_region_lit ?_
    refine q_v p29.s rfl rfl rfl (g_loadB rfl s17 Try.isAgg39 Try.sizeOf39 rfl h_q111 ?_)
    intro a30 p30
    refine q_v p30.s rfl rfl rfl ?_
    refine g_call rfl rfl Try.call31 (arr1 p30.v) ?_
    refine (blocks_on _ hS rfl (Rd.of_own o_wz)).mono ?_
    rintro e w125 ⟨A124, c124, rfl, o_bl, hb124⟩
    refine ⟨_, rfl, ?_⟩
    have d_bl_q12 := own_ne_box o_bl (lt_of_block h_q12)
    have m_tk_bl := own_ne_row o_tk o_bl (Nat.le_refl _)
    have m_bl_tk := ne_row_symm m_tk_bl
    replace o_bl := own_base (base := w.heap.size) o_bl hB.size
    replace h_q12 := keep_below h_q12 hb124
    replace h_q111 := keep_below h_q111 hb124
    replace o_of := own_below o_of hb124
    replace o_tk := own_below o_tk hb124
    replace o_wz := own_below o_wz hb124
    replace hB := hB.trans (hb124.mono hB.size)
    clear hb124
    intro a31 p31
    refine q_v p31.s rfl rfl rfl (g_assign rfl p31.v ?_)
    intro a32 p32
    refine wpList_nil ?_
    have kc29 := (((Kps.nil a29).u p30).u p31).u p32
    replace s2 := kc29.k s2 rfl
    replace s4 := kc29.k s4 rfl
    replace s5 := kc29.k s5 rfl
    replace s6 := kc29.k s6 rfl
    replace s7 := kc29.k s7 rfl
    replace s17 := kc29.k s17 rfl
    replace s18 := kc29.k s18 rfl
    replace s155 := kc29.k s155 rfl
    replace s19 := p32.v
    clear kc29
    refine hK123 _ _ ?_
    clear hK123
    refine wp_seq_k fun K126 hK126 => ?_
    refine wp_seq_k fun K127 hK127 => ?_
    refine wp_region_lit ?_
    refine q_v p32.s rfl rfl rfl (g_assign rfl rfl ?_)
    intro a33 p33
    have s20 : a33.eval (.tmp 20) = .int .i64 0 := p33.v
    refine wpList_nil ?_
    replace s2 := p33.k s2 rfl
    replace s4 := p33.k s4 rfl
    replace s5 := p33.k s5 rfl
    replace s6 := p33.k s6 rfl
    replace s7 := p33.k s7 rfl
    replace s17 := p33.k s17 rfl
    replace s18 := p33.k s18 rfl
    replace s155 := p33.k s155 rfl
    replace s19 := p33.k s19 rfl
    refine hK127 _ _ ?_
    clear hK127
    refine wp_block ?_
    have hbl := blk_len L D
    refine wp_loop (fun a wr => ∃ (i : Nat) (T1 : Nat) (ag1 : Bool) (tA1 : Option Addr) (tc1 : Nat), (St 212 a) ∧ (a.eval (.tmp 2) = .bool false) ∧ (a.eval (.tmp 4) = .bool true) ∧ (a.eval (.tmp 5) = .pointer (some ⟨q12, 0, none⟩)) ∧ (a.eval (.tmp 6) = .slice oA N oc) ∧ (a.eval (.tmp 7) = .slice tA1 T1 tc1) ∧ (a.eval (.tmp 17) = .pointer (some ⟨q111, 0, none⟩)) ∧ (a.eval (.tmp 18) = .int .i64 ((q : Nat) : Int)) ∧ (a.eval (.tmp 19) = .slice A124 ((blocksL (wtL L D)).length) c124) ∧ (a.eval (.tmp 20) = .int .i64 ((i : Nat) : Int)) ∧ (a.eval (.tmp 155) = .bool true) ∧ (Below w.heap.size w wr) ∧ (wr.heap[q12]? = some (.cells #[.int .i64 ((T1 : Nat) : Int), .bool false, .bool ag1, .int .i64 ((T1 : Nat) : Int)] 25 (0, 0))) ∧ (wr.heap[q111]? = some (.cells #[.int .i64 ((L.length : Nat) : Int), .int .i64 wd, .slice wA ((wtL L D).length) wc, .int .i64 ((D : Nat) : Int)] 39 (0, 0))) ∧ (wr.ownsRow w.heap.size 9 1 (.slice oA N oc) N (L.flatMap cS)) ∧ (wr.ownsRow w.heap.size 9 1 (.slice tA1 T1 tc1) T1 ((L.take T1).flatMap cS)) ∧ (wr.ownsRow w.heap.size 80 2 (.slice wA ((wtL L D).length) wc) ((wtL L D).length) ((wtL L D).flatMap cSent)) ∧ (wr.ownsRow w.heap.size 9 1 (.slice A124 ((blocksL (wtL L D)).length) c124) ((blocksL (wtL L D)).length) ((blocksL (wtL L D)).flatMap cS)) ∧ ((tA1 : Option Addr).map (·.block) ≠ some q12) ∧ ((tA1 : Option Addr).map (·.block) ≠ some q111) ∧ (∀ b, (oA : Option Addr).map (·.block) = some b → (tA1 : Option Addr).map (·.block) ≠ some b) ∧ (∀ b, (tA1 : Option Addr).map (·.block) = some b → (oA : Option Addr).map (·.block) ≠ some b) ∧ (∀ b, (wA : Option Addr).map (·.block) = some b → (tA1 : Option Addr).map (·.block) ≠ some b) ∧ (∀ b, (tA1 : Option Addr).map (·.block) = some b → (wA : Option Addr).map (·.block) ≠ some b) ∧ (∀ b, (A124 : Option Addr).map (·.block) = some b → (tA1 : Option Addr).map (·.block) ≠ some b) ∧ (∀ b, (tA1 : Option Addr).map (·.block) = some b → (A124 : Option Addr).map (·.block) ≠ some b) ∧ (∀ b, (tA1 : Option Addr).map (·.block) = some b → w.heap.size ≤ b) ∧ (i ≤ (blocksL (wtL L D)).length) ∧ (D + i ≤ T1) ∧ (T1 ≤ N)) (fun a _ => (blocksL (wtL L D)).length - (intOf (a.eval (.tmp 20))).toNat) (⟨0, T, ag, tA, tc, p33.s, s2, s4, s5, s6, s7, s17, s18, s19, s20, s155, hB, h_q12, h_q111, o_of, o_tk, o_wz, o_bl, d_tk_q12, d_tk_q111, m_of_tk, m_tk_of, m_wz_tk, m_tk_wz, m_bl_tk, m_tk_bl, g_tk, (Nat.zero_le _), hDT, hTL⟩) ?_
    intro a34 w129 hIv
    obtain ⟨i, T1, ag1, tA1, tc1, hIv⟩ := hIv
    have hs := hIv.1
    replace hIv := hIv.2
    have s2 := hIv.1
    replace hIv := hIv.2
    have s4 := hIv.1
    replace hIv := hIv.2
    have s5 := hIv.1
    replace hIv := hIv.2
    have s6 := hIv.1
    replace hIv := hIv.2
    have s7 := hIv.1
    replace hIv := hIv.2
    have s17 := hIv.1
    replace hIv := hIv.2
    have s18 := hIv.1
    replace hIv := hIv.2
    have s19 := hIv.1
    replace hIv := hIv.2
    have s20 := hIv.1
    replace hIv := hIv.2
    have s155 := hIv.1
    replace hIv := hIv.2
    have hB := hIv.1
    replace hIv := hIv.2
    have h_q12 := hIv.1
    replace hIv := hIv.2
    have h_q111 := hIv.1
    replace hIv := hIv.2
    have o_of := hIv.1
    replace hIv := hIv.2
    have o_tk := hIv.1
    replace hIv := hIv.2
    have o_wz := hIv.1
    replace hIv := hIv.2
    have o_bl := hIv.1
    replace hIv := hIv.2
    have d_tk_q12 := hIv.1
    replace hIv := hIv.2
    have d_tk_q111 := hIv.1
    replace hIv := hIv.2
    have m_of_tk := hIv.1
    replace hIv := hIv.2
    have m_tk_of := hIv.1
    replace hIv := hIv.2
    have m_wz_tk := hIv.1
    replace hIv := hIv.2
    have m_tk_wz := hIv.1
    replace hIv := hIv.2
    have m_bl_tk := hIv.1
    replace hIv := hIv.2
    have m_tk_bl := hIv.1
    replace hIv := hIv.2
    have g_tk := hIv.1
    replace hIv := hIv.2
    have hi := hIv.1
    replace hIv := hIv.2
    have hDT1 := hIv.1
    replace hIv := hIv.2
    have hTL1 := hIv
    clear hIv
    have mu130 := s20
    refine wp_seq_k fun K131 hK131 => ?_
    refine wp_seq_k fun K132 hK132 => ?_
    refine wp_region_lit ?_
    refine q_v hs rfl rfl rfl (g_move rfl s20 ?_)
    intro a35 p35
    refine q_v p35.s rfl rfl rfl (g_move rfl (p35.k s19 rfl) ?_)
    intro a36 p36
    refine q_v p36.s rfl rfl rfl (g_len (e := _) rfl Try.underlying43 p36.v ?_)
    intro a37 p37
    refine q_v p37.s rfl rfl rfl (g_lss rfl (p37.k (p36.k p35.v rfl) rfl) p37.v ?_)
    intro a38 p38
    refine wpList_nil ?_
    have kc34 := ((((Kps.nil a34).u p35).u p36).u p37).u p38
    replace s2 := kc34.k s2 rfl
    replace s4 := kc34.k s4 rfl
    replace s5 := kc34.k s5 rfl
    replace s6 := kc34.k s6 rfl
    replace s7 := kc34.k s7 rfl
    replace s17 := kc34.k s17 rfl
    replace s18 := kc34.k s18 rfl
    replace s155 := kc34.k s155 rfl
    replace s19 := kc34.k s19 rfl
    replace s20 := kc34.k s20 rfl
    replace s163 := p38.v
    clear kc34
    refine hK132 _ _ ?_
    clear hK132
    by_cases hc133 : ((i : Nat) : Int) < (((blocksL (wtL L D)).length : Nat) : Int)
    · replace s163 : a38.eval (.tmp 163) = .bool true := (s163).trans (congrArg Value.bool (decide_eq_true hc133))
      refine c_true s163 ?_
      refine wp_skip ?_
      refine hK131 _ _ ?_
      clear hK131
      refine wp_seq_k fun K134 hK134 => ?_
      refine wp_block ?_
      refine wp_seq_k fun K135 hK135 => ?_
      have hib : i < (blocksL (wtL L D)).length := by omega
      have hDi : D + i < L.length := by omega
      obtain ⟨T3, ag3, t3, d3, hT31, hT32, hT33, ht1, ht2, hTk⟩ := take_ex (T := T1) (ag := ag1) hDi (blocks_get hib hDi) (by omega) (by omega) (by omega) (by omega) hS.all
      have hs := p38.s
      obtain ⟨b136, o137, hA138, hl_hc139, hc139⟩ := Rd.get cS_len (Rd.of_own o_bl) rfl (i := i) (by omega)
      refine wp_drawn (n := 212) [8, 9, 12, 13] [11] [] (fun k_ v_ wx => match k_ with | 0 => v_ = .agg #[.int .i64 ((T1 : Nat) : Int), .bool false, .bool ag1, .int .i64 ((T1 : Nat) : Int)] | 1 => v_ = .slice A124 ((blocksL (wtL L D)).length) c124 | 2 => v_ = .int .i64 ((i : Nat) : Int) | 3 => v_ = .pointer (some ⟨b136, o137 + i * 1, none⟩) | 4 => v_ = .string ⟨((blocksL (wtL L D))[i]).toArray⟩ | 5 => v_ = .tuple #[.agg #[.int .i64 ((T3 : Nat) : Int), .bool false, .bool ag3, .int .i64 ((T3 : Nat) : Int)], .string ⟨(d3).toArray⟩, .bool t3] | 6 => v_ = .tuple #[.agg #[.int .i64 ((T3 : Nat) : Int), .bool false, .bool ag3, .int .i64 ((T3 : Nat) : Int)], .string ⟨(d3).toArray⟩, .bool t3] | 7 => v_ = .agg #[.int .i64 ((T3 : Nat) : Int), .bool false, .bool ag3, .int .i64 ((T3 : Nat) : Int)] | 8 => v_ = .string ⟨(d3).toArray⟩ | 9 => v_ = .bool t3 | 10 => ∃ q141, v_ = .pointer (some ⟨q141, 0, none⟩) ∧ w129.heap.size ≤ q141 ∧ wx.heap[q141]? = some (.cells #[.int .i64 0, .bool false, .bool false, .int .i64 0] 25 (0, 0)) | 12 => v_ = .string ⟨(d3).toArray⟩ | 13 => v_ = .bool t3 | _ => True) (by kernel_rfl) (by kernel_rfl) (by kernel_rfl) (by kernel_rfl) hs.size ?_ ?_ ?_
      · intro i v wa wb hb hr
        rcases i with _ | _ | _ | _ | _ | _ | _ | _ | _ | _ | _ | _ | _ | _ | i
        · exact hr
        · exact hr
        · exact hr
        · exact hr
        · exact hr
        · exact hr
        · exact hr
        · exact hr
        · exact hr
        · exact hr
        · obtain ⟨q141, hr, hg, hh⟩ := hr; exact ⟨q141, hr, hg, keep_below hh hb⟩
        · trivial
        · exact hr
        · exact hr
        · trivial
      · refine d_step rfl rfl ?_ (d_step rfl rfl ?_ (d_step rfl rfl ?_ (d_step rfl rfl ?_ (d_step rfl rfl ?_ (d_step rfl rfl ?_ (d_step rfl rfl ?_ (d_step rfl rfl ?_ (d_late rfl rfl ?_ (d_late rfl rfl ?_ (d_step rfl rfl ?_ (d_chain rfl (d_late rfl rfl ?_ (d_late rfl rfl ?_ (d_nil))))))))))))))
        · intro xv_ wx ρ hρ hwx hd K hK
          have e5 : ρ (.tmp 5) = .pointer (some ⟨q12, 0, none⟩) := (hρ.inn 5 rfl).trans s5
          have h_q12 := keep_below h_q12 hwx
          refine g_loadB rfl e5 Try.isAgg25 Try.sizeOf25 rfl h_q12 ?_
          exact hK _ _ (Below.refl _ _) rfl
        · intro xv_ wx ρ hρ hwx hd K hK
          have e19 : ρ (.tmp 19) = .slice A124 ((blocksL (wtL L D)).length) c124 := (hρ.inn 19 rfl).trans s19
          refine g_move rfl e19 ?_
          exact hK _ _ (Below.refl _ _) rfl
        · intro xv_ wx ρ hρ hwx hd K hK
          have e20 : ρ (.tmp 20) = .int .i64 ((i : Nat) : Int) := (hρ.inn 20 rfl).trans s20
          refine g_move rfl e20 ?_
          exact hK _ _ (Below.refl _ _) rfl
        · intro xv_ wx ρ hρ hwx hd K hK
          have e168 := (out2 hρ hs 1 168 rfl rfl rfl).trans (hd 1 rfl)
          have e169 := (out2 hρ hs 2 169 rfl rfl rfl).trans (hd 2 rfl)
          refine g_index (r := o137 + i * 1) (k := i) rfl (e168.trans (slice_at hA138)) e169 Try.underlying43 (fun w => Try.sizeOf9 w) (by omega) rfl ?_
          exact hK _ _ (Below.refl _ _) rfl
        · intro xv_ wx ρ hρ hwx hd K hK
          have e170 := (out2 hρ hs 3 170 rfl rfl rfl).trans (hd 3 rfl)
          have hc139 := elem_below hc139 hwx hl_hc139
          refine g_load rfl e170 Try.isAgg9 (by first | exact hc139 0 _ (by decide) rfl | (rw [Nat.add_assoc]; exact hc139 0 _ (by decide) rfl)) ?_
          exact hK _ _ (Below.refl _ _) rfl
        · intro xv_ wx ρ hρ hwx hd K hK
          have e167 := (out2 hρ hs 0 167 rfl rfl rfl).trans (hd 0 rfl)
          have e171 := (out2 hρ hs 4 171 rfl rfl rfl).trans (hd 4 rfl)
          refine g_call rfl (hρ.fn _) Try.call33 (arr2 e167 e171) ?_
          refine (hTk _).mono ?_
          rintro e wy ⟨rfl, hb140⟩
          exact ⟨_, rfl, hK _ _ hb140 rfl⟩
        · intro xv_ wx ρ hρ hwx hd K hK
          have e172 := (out2 hρ hs 5 172 rfl rfl rfl).trans (hd 5 rfl)
          refine g_move rfl e172 ?_
          exact hK _ _ (Below.refl _ _) rfl
        · intro xv_ wx ρ hρ hwx hd K hK
          have e166 := (out2 hρ hs 6 166 rfl rfl rfl).trans (hd 6 rfl)
          refine g_extract rfl e166 rfl ?_
          exact hK _ _ (Below.refl _ _) rfl
        · intro xv_ wx ρ hρ hwx hd
          have e166 := (out2 hρ hs 6 166 rfl rfl rfl).trans (hd 6 rfl rfl)
          exact ⟨_, fun w' => l_extract rfl e166 rfl, rfl⟩
        · intro xv_ wx ρ hρ hwx hd
          have e166 := (out2 hρ hs 6 166 rfl rfl rfl).trans (hd 6 rfl rfl)
          exact ⟨_, fun w' => l_extract rfl e166 rfl, rfl⟩
        · intro xv_ wx ρ hρ hwx hd K hK
          refine g_alloc rfl Try.zeroValue25 rfl ?_
          intro q w' N
          exact hK _ _ N.below ⟨q, rfl, Nat.le_trans hwx.size N.lo, N.here⟩
        · intro xv_ wx ρ hρ hwx hd
          have e174 := (out2 hρ hs 8 174 rfl rfl rfl).trans (hd 8 rfl rfl)
          exact ⟨_, fun w' => l_assign rfl e174, rfl⟩
        · intro xv_ wx ρ hρ hwx hd
          have e175 := (out2 hρ hs 9 175 rfl rfl rfl).trans (hd 9 rfl rfl)
          exact ⟨_, fun w' => l_assign rfl e175, rfl⟩
      · intro x0_ w142 hb_w142 hr0
        obtain ⟨q141, r10, g0_q141, h_q141⟩ : ∃ q141, x0_ 10 = .pointer (some ⟨q141, 0, none⟩) ∧ w129.heap.size ≤ q141 ∧ w142.heap[q141]? = some (.cells #[.int .i64 0, .bool false, .bool false, .int .i64 0] 25 (0, 0)) := hr0 10 (by decide) rfl rfl
        have n_q12_q141 : NeB q12 q141 := ⟨fun e => by have := lt_of_block h_q12; omega⟩
        have n_q141_q12 := n_q12_q141.symm
        have n_q111_q141 : NeB q111 q141 := ⟨fun e => by have := lt_of_block h_q111; omega⟩
        have n_q141_q111 := n_q111_q141.symm
        have d_of_q141 := own_ne o_of (.inr g0_q141)
        have d_tk_q141 := own_ne o_tk (.inr g0_q141)
        have d_wz_q141 := own_ne o_wz (.inr g0_q141)
        have d_bl_q141 := own_ne o_bl (.inr g0_q141)
        have g_q141 : GeB w.heap.size q141 := ⟨Nat.le_trans hB.size g0_q141⟩
        clear g0_q141
        replace h_q12 := keep_below h_q12 hb_w142
        replace h_q111 := keep_below h_q111 hb_w142
        replace o_of := own_below o_of hb_w142
        replace o_tk := own_below o_tk hb_w142
        replace o_wz := own_below o_wz hb_w142
        replace o_bl := own_below o_bl hb_w142
        replace hB := hB.trans (hb_w142.mono hB.size)
        clear hb_w142
        intro op_ ho_ xv_ ρ hρ qx_ ql_ qk_
        obtain rfl := Option.some.inj ho_
        clear ho_
        have e21 : ρ (.tmp 21) = .pointer (some ⟨q141, 0, none⟩) := (hρ.out 10 21 rfl (by rw [hs.size]; decide) rfl).trans ((qx_ 10 (by decide) rfl rfl).trans r10)
        have e173 : ρ (.tmp 173) = .agg #[.int .i64 ((T3 : Nat) : Int), .bool false, .bool ag3, .int .i64 ((T3 : Nat) : Int)] := (hρ.out 7 173 rfl (by rw [hs.size]; decide) rfl).trans ((qx_ 7 (by decide) rfl rfl).trans (hr0 7 (by decide) rfl rfl))
        refine g_storeB rfl e21 e173 Try.sizeOf25 rfl rfl h_q141 rfl ?_
        intro w143 W_w143
        replace h_q12 := keep_wrote h_q12 W_w143 n_q141_q12
        replace h_q111 := keep_wrote h_q111 W_w143 n_q141_q111
        replace h_q141 := W_w143.here
        replace o_of := own_wrote o_of W_w143 d_of_q141
        replace o_tk := own_wrote o_tk W_w143 d_tk_q141
        replace o_wz := own_wrote o_wz W_w143 d_wz_q141
        replace o_bl := own_wrote o_bl W_w143 d_bl_q141
        replace hB := below_wrote hB hB.size W_w143 g_q141.le
        clear W_w143
        clear e173 e21
        clear hρ qx_ ql_ qk_
        intro xv_ a39 hρ hsz hdf qx_ ql_ qk_ qlk_
        replace s2 : a39.eval (.tmp 2) = .bool false := (hρ.inn 2 rfl).trans s2
        replace s4 : a39.eval (.tmp 4) = .bool true := (hρ.inn 4 rfl).trans s4
        replace s5 : a39.eval (.tmp 5) = .pointer (some ⟨q12, 0, none⟩) := (hρ.inn 5 rfl).trans s5
        replace s6 : a39.eval (.tmp 6) = .slice oA N oc := (hρ.inn 6 rfl).trans s6
        replace s7 : a39.eval (.tmp 7) = .slice tA1 T1 tc1 := (hρ.inn 7 rfl).trans s7
        replace s17 : a39.eval (.tmp 17) = .pointer (some ⟨q111, 0, none⟩) := (hρ.inn 17 rfl).trans s17
        replace s18 : a39.eval (.tmp 18) = .int .i64 ((q : Nat) : Int) := (hρ.inn 18 rfl).trans s18
        replace s19 : a39.eval (.tmp 19) = .slice A124 ((blocksL (wtL L D)).length) c124 := (hρ.inn 19 rfl).trans s19
        replace s20 : a39.eval (.tmp 20) = .int .i64 ((i : Nat) : Int) := (hρ.inn 20 rfl).trans s20
        have s21 : a39.eval (.tmp 21) = .pointer (some ⟨q141, 0, none⟩) := (hρ.out 10 21 rfl (by rw [hs.size]; decide)).trans ((qx_ 10 (by decide) rfl rfl).trans r10)
        have s22 : a39.eval (.tmp 22) = .string ⟨(d3).toArray⟩ := (hρ.out 12 22 rfl (by rw [hs.size]; decide)).trans (ql_ 12 (by decide) rfl)
        have s23 : a39.eval (.tmp 23) = .bool t3 := (hρ.out 13 23 rfl (by rw [hs.size]; decide)).trans (ql_ 13 (by decide) rfl)
        replace s155 : a39.eval (.tmp 155) = .bool true := (hρ.inn 155 rfl).trans s155
        replace s163 : a39.eval (.tmp 163) = .bool true := (hρ.inn 163 rfl).trans s163
        replace hs : St 212 a39 := ⟨hsz.trans hs.size, hdf.trans hs.nodef⟩
        clear hρ hsz hdf qx_ ql_ qk_ qlk_
        refine hK135 _ _ ?_
        clear hK135
        refine wp_seq_k fun K144 hK144 => ?_
        refine wp_region_lit ?_
        refine q_v hs rfl rfl rfl (g_loadB rfl s21 Try.isAgg25 Try.sizeOf25 rfl h_q141 ?_)
        intro a40 p40
        refine q_eff rfl rfl ?_
        refine g_storeB rfl (p40.k s5 rfl) p40.v Try.sizeOf25 rfl rfl h_q12 rfl ?_
        intro w145 W_w145
        replace h_q12 := W_w145.here
        replace h_q111 := keep_wrote h_q111 W_w145 n_q12_q111
        replace o_of := own_wrote o_of W_w145 d_of_q12
        replace o_tk := own_wrote o_tk W_w145 d_tk_q12
        replace o_wz := own_wrote o_wz W_w145 d_wz_q12
        replace o_bl := own_wrote o_bl W_w145 d_bl_q12
        replace hB := below_wrote hB hB.size W_w145 g_q12.le
        clear W_w145
        refine wpList_nil ?_
        replace s2 := p40.k s2 rfl
        replace s4 := p40.k s4 rfl
        replace s5 := p40.k s5 rfl
        replace s6 := p40.k s6 rfl
        replace s7 := p40.k s7 rfl
        replace s17 := p40.k s17 rfl
        replace s18 := p40.k s18 rfl
        replace s19 := p40.k s19 rfl
        replace s20 := p40.k s20 rfl
        replace s21 := p40.k s21 rfl
        replace s22 := p40.k s22 rfl
        replace s23 := p40.k s23 rfl
        replace s155 := p40.k s155 rfl
        replace s163 := p40.k s163 rfl
        refine hK144 _ _ ?_
        clear hK144
        refine wp_seq_k fun K146 hK146 => ?_
        refine wp_region_lit ?_
        refine q_v p40.s rfl rfl rfl (g_move rfl s23 ?_)
        intro a41 p41
        refine wpList_nil ?_
        replace s2 := p41.k s2 rfl
        replace s4 := p41.k s4 rfl
        replace s5 := p41.k s5 rfl
        replace s6 := p41.k s6 rfl
        replace s7 := p41.k s7 rfl
        replace s17 := p41.k s17 rfl
        replace s18 := p41.k s18 rfl
        replace s19 := p41.k s19 rfl
        replace s20 := p41.k s20 rfl
        replace s21 := p41.k s21 rfl
        replace s22 := p41.k s22 rfl
        replace s23 := p41.k s23 rfl
        replace s155 := p41.k s155 rfl
        replace s163 := p41.k s163 rfl
        replace s177 := p41.v
        refine hK146 _ _ ?_
        clear hK146
        cases ht3 : t3
        · replace s23 : a41.eval (.tmp 23) = .bool false := (s23).trans (congrArg Value.bool ht3)
          replace s177 : a41.eval (.tmp 177) = .bool false := (s177).trans (congrArg Value.bool ht3)
          refine c_false s177 ?_
          refine wp_skip ?_
          refine hK134 _ _ ?_
          clear hK134
          refine wp_region_lit ?_
          refine q_v p41.s rfl rfl rfl (g_move rfl s20 ?_)
          intro a42 p42
          refine q_v p42.s rfl rfl rfl (g_add (r := ((i + 1 : Nat) : Int)) rfl p42.v rfl (by omega) (by omega) ?_)
          intro a43 p43
          refine q_v p43.s rfl rfl rfl (g_assign rfl p43.v ?_)
          intro a44 p44
          refine wpList_nil ?_
          have kc41 := (((Kps.nil a41).u p42).u p43).u p44
          replace s2 := kc41.k s2 rfl
          replace s4 := kc41.k s4 rfl
          replace s5 := kc41.k s5 rfl
          replace s6 := kc41.k s6 rfl
          replace s7 := kc41.k s7 rfl
          replace s17 := kc41.k s17 rfl
          replace s18 := kc41.k s18 rfl
          replace s19 := kc41.k s19 rfl
          replace s20 := p44.v
          replace s21 := kc41.k s21 rfl
          replace s22 := kc41.k s22 rfl
          replace s23 := kc41.k s23 rfl
          replace s155 := kc41.k s155 rfl
          replace s163 := kc41.k s163 rfl
          replace s177 := kc41.k s177 rfl
          clear kc41
          have hTe := ht2 ht3
          subst hTe
          refine show _ ∧ _ from ⟨⟨i + 1, T1, ag3, _, _, p44.s, s2, s4, s5, s6, s7, s17, s18, s19, s20, s155, hB, h_q12, h_q111, o_of, o_tk, o_wz, o_bl, d_tk_q12, d_tk_q111, m_of_tk, m_tk_of, m_wz_tk, m_tk_wz, m_bl_tk, m_tk_bl, g_tk, (by omega), (by omega), (by omega)⟩, ?_⟩
          show (blocksL (wtL L D)).length - (intOf (a44.eval (.tmp 20))).toNat < (blocksL (wtL L D)).length - (intOf (a34.eval (.tmp 20))).toNat
          rw [s20, mu130]
          simp only [intOf]
          omega
        replace s23 : a41.eval (.tmp 23) = .bool true := (s23).trans (congrArg Value.bool ht3)
        replace s177 : a41.eval (.tmp 177) = .bool true := (s177).trans (congrArg Value.bool ht3)
        refine c_true s177 ?_
        obtain ⟨hTe, hTa⟩ := ht1 ht3
        subst hTe
        refine wp_region_lit ?_
        refine q_v p41.s rfl rfl rfl (g_move rfl s7 ?_)
        intro a42 p42
        refine q_v p42.s rfl rfl rfl (g_move rfl (p42.k s22 rfl) ?_)
        intro a43 p43
        refine q_v p43.s rfl rfl rfl ?_
        refine g_bslice1 (cs := #[.string ⟨(d3).toArray⟩]) rfl Try.underlying43 Try.sizeOf9 Try.zeroValue9 p43.v (by kernel_rfl) rfl (by decide) ?_
        intro q147 w148 N_q147
        replace h_q12 := keep_below h_q12 N_q147.below
        replace h_q111 := keep_below h_q111 N_q147.below
        replace o_of := own_below o_of N_q147.below
        replace o_tk := own_below o_tk N_q147.below
        replace o_wz := own_below o_wz N_q147.below
        replace o_bl := own_below o_bl N_q147.below
        replace hB := below_new hB hB.size N_q147
        have h_q147 := N_q147.here
        clear N_q147
        intro a44 p44
        refine q_v p44.s rfl rfl rfl ?_
        refine g_append (n' := T1 + 1) (ys := ((L.take T1) ++ [d3]).flatMap cS) w.heap.size (.string ⟨#[]⟩) 1 16 rfl (p44.k (p43.k p42.v rfl) rfl) p44.v Try.underlying43 infoStrB rfl (by decide) o_tk (fun h => by cases h) (rd_box (xs := ([d3]).flatMap cS) h_q147 rfl rfl) (flatS_one _) (by omega) hB.size (by decide) (by omega) (by first | rfl | simp [List.flatMap_append] | (simp [List.flatMap_append, cS]; done)) ?_
        intro A_r149 c_r149 w150 P_r149
        have d_r149_q12 := P_r149.ne d_tk_q12 (lt_of_block h_q12)
        have d_r149_q111 := P_r149.ne d_tk_q111 (lt_of_block h_q111)
        have m_of_r149 := P_r149.row m_of_tk o_of
        have m_r149_of := ne_row_symm m_of_r149
        have m_wz_r149 := P_r149.row m_wz_tk o_wz
        have m_r149_wz := ne_row_symm m_wz_r149
        have m_bl_r149 := P_r149.row m_bl_tk o_bl
        have m_r149_bl := ne_row_symm m_bl_r149
        have g_r149 := P_r149.ge g_tk hB.size
        replace h_q12 := keep_grown h_q12 P_r149.grown d_tk_q12
        replace h_q111 := keep_grown h_q111 P_r149.grown d_tk_q111
        replace o_of := own_grown o_of P_r149.grown m_of_tk
        replace o_wz := own_grown o_wz P_r149.grown m_wz_tk
        replace o_bl := own_grown o_bl P_r149.grown m_bl_tk
        replace hB := below_grown hB hB.size P_r149.grown g_tk
        have o_r149 := P_r149.own
        clear P_r149
        intro a45 p45
        refine q_v p45.s rfl rfl rfl (g_assign rfl p45.v ?_)
        intro a46 p46
        refine wpList_nil ?_
        have kc41 := (((((Kps.nil a41).u p42).u p43).u p44).u p45).u p46
        replace s2 := kc41.k s2 rfl
        replace s4 := kc41.k s4 rfl
        replace s5 := kc41.k s5 rfl
        replace s6 := kc41.k s6 rfl
        replace s7 := p46.v
        replace s17 := kc41.k s17 rfl
        replace s18 := kc41.k s18 rfl
        replace s19 := kc41.k s19 rfl
        replace s20 := kc41.k s20 rfl
        replace s21 := kc41.k s21 rfl
        replace s22 := kc41.k s22 rfl
        replace s23 := kc41.k s23 rfl
        replace s155 := kc41.k s155 rfl
        replace s163 := kc41.k s163 rfl
        replace s177 := kc41.k s177 rfl
        clear kc41
        refine hK134 _ _ ?_
        clear hK134
        refine wp_region_lit ?_
        refine q_v p46.s rfl rfl rfl (g_move rfl s20 ?_)
        intro a47 p47
        refine q_v p47.s rfl rfl rfl (g_add (r := ((i + 1 : Nat) : Int)) rfl p47.v rfl (by omega) (by omega) ?_)
        intro a48 p48
        refine q_v p48.s rfl rfl rfl (g_assign rfl p48.v ?_)
        intro a49 p49
        refine wpList_nil ?_
        have kc46 := (((Kps.nil a46).u p47).u p48).u p49
        replace s2 := kc46.k s2 rfl
        replace s4 := kc46.k s4 rfl
        replace s5 := kc46.k s5 rfl
        replace s6 := kc46.k s6 rfl
        replace s7 := kc46.k s7 rfl
        replace s17 := kc46.k s17 rfl
        replace s18 := kc46.k s18 rfl
        replace s19 := kc46.k s19 rfl
        replace s20 := p49.v
        replace s21 := kc46.k s21 rfl
        replace s22 := kc46.k s22 rfl
        replace s23 := kc46.k s23 rfl
        replace s155 := kc46.k s155 rfl
        replace s163 := kc46.k s163 rfl
        replace s177 := kc46.k s177 rfl
        clear kc46
        rw [hTa] at o_r149
        have o_tk := o_r149
        have g_tk := g_r149
        have d_tk_q12 := d_r149_q12
        have d_tk_q111 := d_r149_q111
        have m_of_tk := m_of_r149
        have m_tk_of := m_r149_of
        have m_wz_tk := m_wz_r149
        have m_tk_wz := m_r149_wz
        have m_bl_tk := m_bl_r149
        have m_tk_bl := m_r149_bl
        refine show _ ∧ _ from ⟨⟨i + 1, (T1 + 1), ag3, _, _, p49.s, s2, s4, s5, s6, s7, s17, s18, s19, s20, s155, hB, h_q12, h_q111, o_of, o_tk, o_wz, o_bl, d_tk_q12, d_tk_q111, m_of_tk, m_tk_of, m_wz_tk, m_tk_wz, m_bl_tk, m_tk_bl, g_tk, (by omega), (by omega), (by omega)⟩, ?_⟩
        show (blocksL (wtL L D)).length - (intOf (a49.eval (.tmp 20))).toNat < (blocksL (wtL L D)).length - (intOf (a34.eval (.tmp 20))).toNat
        rw [s20, mu130]
        simp only [intOf]
        omega
    replace s163 : a38.eval (.tmp 163) = .bool false := (s163).trans (congrArg Value.bool (decide_eq_false hc133))
    refine c_false s163 ?_
    refine wp_exit ?_
    refine hK126 _ _ ?_
    clear hK126
    have hs := p38.s
    refine wp_drawn (n := 212) [] [4] [] (fun k_ v_ wx => match k_ with | 0 => v_ = .agg #[.int .i64 ((L.length : Nat) : Int), .int .i64 wd, .slice wA ((wtL L D).length) wc, .int .i64 ((D : Nat) : Int)] | 1 => v_ = .agg #[.int .i64 ((T1 : Nat) : Int), .bool false, .bool ag1, .int .i64 ((T1 : Nat) : Int)] | 2 => v_ = .agg #[.int .i64 ((T1 : Nat) : Int), .bool false, .bool ag1] | 3 => ∃ (A152 : Option Addr) (c152 : Nat), v_ = .agg #[.int .i64 ((L.length : Nat) : Int), .int .i64 wd, .slice A152 ((wtL L T1).length) c152, .int .i64 ((T1 : Nat) : Int)] ∧ ((wx).ownsRow w129.heap.size 80 2 (.slice A152 ((wtL L T1).length) c152) ((wtL L T1).length) ((wtL L T1).flatMap cSent)) | _ => True) (by kernel_rfl) (by kernel_rfl) (by kernel_rfl) (by kernel_rfl) hs.size ?_ ?_ ?_
    · intro i v wa wb hb hr
      rcases i with _ | _ | _ | _ | _ | i
      · exact hr
      · exact hr
      · exact hr
      · obtain ⟨A152, c152, hr, o_y152⟩ := hr; exact ⟨A152, c152, hr, own_below o_y152 hb⟩
      · trivial
      · trivial
    · refine d_step rfl rfl ?_ (d_step rfl rfl ?_ (d_step rfl rfl ?_ (d_step rfl rfl ?_ (d_chain rfl (d_nil)))))
      · intro xv_ wx ρ hρ hwx hd K hK
        have e17 : ρ (.tmp 17) = .pointer (some ⟨q111, 0, none⟩) := (hρ.inn 17 rfl).trans s17
        have h_q111 := keep_below h_q111 hwx
        refine g_loadB rfl e17 Try.isAgg39 Try.sizeOf39 rfl h_q111 ?_
        exact hK _ _ (Below.refl _ _) rfl
      · intro xv_ wx ρ hρ hwx hd K hK
        have e5 : ρ (.tmp 5) = .pointer (some ⟨q12, 0, none⟩) := (hρ.inn 5 rfl).trans s5
        have h_q12 := keep_below h_q12 hwx
        refine g_loadB rfl e5 Try.isAgg25 Try.sizeOf25 rfl h_q12 ?_
        exact hK _ _ (Below.refl _ _) rfl
      · intro xv_ wx ρ hρ hwx hd K hK
        have e183 := (out2 hρ hs 1 183 rfl rfl rfl).trans (hd 1 rfl)
        refine g_call rfl (hρ.fn _) Try.call25 (arr1 e183) ?_
        refine (noticeOf_any _ _ _ _ _).mono ?_
        rintro e wy ⟨rfl, hb151⟩
        exact ⟨_, rfl, hK _ _ hb151 rfl⟩
      · intro xv_ wx ρ hρ hwx hd K hK
        have e182 := (out2 hρ hs 0 182 rfl rfl rfl).trans (hd 0 rfl)
        have e184 := (out2 hρ hs 2 184 rfl rfl rfl).trans (hd 2 rfl)
        refine g_call rfl (hρ.fn _) Try.call34 (arr2 e182 e184) ?_
        refine (hear_on _ hS (by omega) (by omega) rfl (own_cap o_wz).1 (own_nil o_wz) ((Rd.of_own o_wz).below hwx)).mono ?_
        rintro e wy ⟨A152, c152, rfl, o_y152, hb152⟩
        exact ⟨_, rfl, hK _ _ hb152 ⟨A152, c152, rfl, own_base o_y152 hwx.size⟩⟩
    · intro x0_ w153 hb_w153 hr0
      obtain ⟨A152, c152, r3, o_y152⟩ : ∃ (A152 : Option Addr) (c152 : Nat), x0_ 3 = .agg #[.int .i64 ((L.length : Nat) : Int), .int .i64 wd, .slice A152 ((wtL L T1).length) c152, .int .i64 ((T1 : Nat) : Int)] ∧ ((w153).ownsRow w129.heap.size 80 2 (.slice A152 ((wtL L T1).length) c152) ((wtL L T1).length) ((wtL L T1).flatMap cSent)) := hr0 3 (by decide) rfl rfl
      have d_y152_q12 := own_ne_box o_y152 (lt_of_block h_q12)
      have d_y152_q111 := own_ne_box o_y152 (lt_of_block h_q111)
      have m_of_y152 := own_ne_row o_of o_y152 (Nat.le_refl _)
      have m_y152_of := ne_row_symm m_of_y152
      have m_tk_y152 := own_ne_row o_tk o_y152 (Nat.le_refl _)
      have m_y152_tk := ne_row_symm m_tk_y152
      have g_y152 : ∀ b, (A152 : Option Addr).map (·.block) = some b → w.heap.size ≤ b := fun b h => Nat.le_trans hB.size (own_row o_y152 b h).1
      replace o_y152 := own_base (base := w.heap.size) o_y152 hB.size
      replace h_q12 := keep_below h_q12 hb_w153
      replace h_q111 := keep_below h_q111 hb_w153
      replace o_of := own_below o_of hb_w153
      replace o_tk := own_below o_tk hb_w153
      replace o_wz := own_below o_wz hb_w153
      replace hB := hB.trans (hb_w153.mono hB.size)
      clear hb_w153
      intro op_ ho_ xv_ ρ hρ qx_ ql_ qk_
      obtain rfl := Option.some.inj ho_
      clear ho_
      have e17 : ρ (.tmp 17) = .pointer (some ⟨q111, 0, none⟩) := (hρ.inn 17 rfl).trans s17
      have e185 : ρ (.tmp 185) = .agg #[.int .i64 ((L.length : Nat) : Int), .int .i64 wd, .slice A152 ((wtL L T1).length) c152, .int .i64 ((T1 : Nat) : Int)] := (hρ.out 3 185 rfl (by rw [hs.size]; decide) rfl).trans ((qx_ 3 (by decide) rfl rfl).trans r3)
      refine g_storeB rfl e17 e185 Try.sizeOf39 rfl rfl h_q111 rfl ?_
      intro w154 W_w154
      replace h_q12 := keep_wrote h_q12 W_w154 n_q111_q12
      replace h_q111 := W_w154.here
      replace o_of := own_wrote o_of W_w154 d_of_q111
      replace o_tk := own_wrote o_tk W_w154 d_tk_q111
      replace o_wz := own_wrote o_wz W_w154 d_wz_q111
      replace o_y152 := own_wrote o_y152 W_w154 d_y152_q111
      replace hB := below_wrote hB hB.size W_w154 g_q111.le
      clear W_w154
      clear e17 e185
      clear hρ qx_ ql_ qk_
      intro xv_ a39 hρ hsz hdf qx_ ql_ qk_ qlk_
      replace s2 : a39.eval (.tmp 2) = .bool false := (hρ.inn 2 rfl).trans s2
      replace s4 : a39.eval (.tmp 4) = .bool true := (hρ.inn 4 rfl).trans s4
      replace s5 : a39.eval (.tmp 5) = .pointer (some ⟨q12, 0, none⟩) := (hρ.inn 5 rfl).trans s5
      replace s6 : a39.eval (.tmp 6) = .slice oA N oc := (hρ.inn 6 rfl).trans s6
      replace s7 : a39.eval (.tmp 7) = .slice tA1 T1 tc1 := (hρ.inn 7 rfl).trans s7
      replace s17 : a39.eval (.tmp 17) = .pointer (some ⟨q111, 0, none⟩) := (hρ.inn 17 rfl).trans s17
      replace s18 : a39.eval (.tmp 18) = .int .i64 ((q : Nat) : Int) := (hρ.inn 18 rfl).trans s18
      replace s19 : a39.eval (.tmp 19) = .slice A124 ((blocksL (wtL L D)).length) c124 := (hρ.inn 19 rfl).trans s19
      replace s20 : a39.eval (.tmp 20) = .int .i64 ((i : Nat) : Int) := (hρ.inn 20 rfl).trans s20
      replace s155 : a39.eval (.tmp 155) = .bool true := (hρ.inn 155 rfl).trans s155
      replace s163 : a39.eval (.tmp 163) = .bool false := (hρ.inn 163 rfl).trans s163
      replace hs : St 212 a39 := ⟨hsz.trans hs.size, hdf.trans hs.nodef⟩
      clear hρ hsz hdf qx_ ql_ qk_ qlk_
      refine hK122 _ _ ?_
      clear hK122
      refine wp_region_lit ?_
      refine q_v hs rfl rfl rfl (g_move rfl s18 ?_)
      intro a40 p40
      refine q_v p40.s rfl rfl rfl (g_add (r := ((q + 1 : Nat) : Int)) rfl p40.v rfl (by omega) (by omega) ?_)
      intro a41 p41
      refine q_v p41.s rfl rfl rfl (g_assign rfl p41.v ?_)
      intro a42 p42
      refine wpList_nil ?_
      have kc39 := (((Kps.nil a39).u p40).u p41).u p42
      replace s2 := kc39.k s2 rfl
      replace s4 := kc39.k s4 rfl
      replace s5 := kc39.k s5 rfl
      replace s6 := kc39.k s6 rfl
      replace s7 := kc39.k s7 rfl
      replace s17 := kc39.k s17 rfl
      replace s18 := p42.v
      replace s19 := kc39.k s19 rfl
      replace s20 := kc39.k s20 rfl
      replace s155 := kc39.k s155 rfl
      replace s163 := kc39.k s163 rfl
      clear kc39
      have o_wz := o_y152
      have g_wz := g_y152
      have d_wz_q12 := d_y152_q12
      have d_wz_q111 := d_y152_q111
      have m_of_wz := m_of_y152
      have m_wz_of := m_y152_of
      have m_tk_wz := m_tk_y152
      have m_wz_tk := m_y152_tk
      refine show _ ∧ _ from ⟨⟨q + 1, T1, T1, ag1, _, _, _, _, p42.s, s2, s4, s5, s6, s7, s17, s18, hB, h_q12, h_q111, o_of, o_tk, o_wz, d_wz_q12, d_wz_q111, m_of_wz, m_wz_of, m_tk_wz, g_wz, d_tk_q12, d_tk_q111, m_of_tk, m_tk_of, m_wz_tk, g_tk, (hS.hear (by omega) (by omega)), (Nat.le_refl _), hTL1, (.inr ⟨by omega, by omega⟩), (by omega)⟩, ?_⟩
      show 3 - (intOf (a42.eval (.tmp 18))).toNat < 3 - (intOf (a27.eval (.tmp 18))).toNat
      rw [s18, mu118]
      simp only [intOf]
      omega
  replace s155 : a29.eval (.tmp 155) = .bool false := (s155).trans (congrArg Value.bool (decide_eq_false hc121))
  refine c_false s155 ?_
  refine wp_exit ?_
  refine hK114 _ _ ?_
  clear hK114
  refine wp_seq_k fun K155 hK155 => ?_
  obtain ⟨hT9, hD9⟩ : T = N ∧ D = N := by omega
  have hTall : L.take T = L := List.take_of_length_le (by omega)
  have hwl := wtL_len L D
  refine wp_region_lit ?_
  refine q_v p29.s rfl rfl rfl (g_move rfl s4 ?_)
  intro a30 p30
  refine q_v p30.s rfl rfl rfl (g_move rfl p30.v ?_)
  intro a31 p31
  refine q_t p31.s rfl rfl p31.v rfl rfl (g_field (r := 2) rfl (p31.k (p30.k s17 rfl) rfl) Try.underlying39 rfl (fun w => Try.sizeOf37 w) rfl rfl ?_)
  intro a32 p32
  refine q_t p32.s rfl rfl (p32.k p31.v rfl) rfl rfl (g_load rfl p32.v Try.isAgg37 (box_cell h_q111 rfl) ?_)
  intro a33 p33
  refine q_t p33.s rfl rfl (p33.k (p32.k p31.v rfl) rfl) rfl rfl (g_len (e := _) rfl Try.underlying37 p33.v ?_)
  intro a34 p34
  refine q_t p34.s rfl rfl (p34.k (p33.k (p32.k p31.v rfl) rfl) rfl) rfl rfl (g_eql rfl p34.v rfl ?_)
  intro a35 p35
  have s191 : a35.eval (.tmp 191) = .bool true := (p35.v).trans (congrArg Value.bool (decide_eq_true (by omega)))
  refine q_v p35.s rfl rfl rfl (g_pick_t rfl (p35.k (p34.k (p33.k (p32.k p31.v rfl) rfl) rfl) rfl) s191 ?_)
  intro a36 p36
  have s192 : a36.eval (.tmp 192) = .bool true := p36.v
  refine q_v p36.s rfl rfl rfl (g_move rfl s192 ?_)
  intro a37 p37
  refine q_t p37.s rfl rfl p37.v rfl rfl (g_move rfl (p37.k (p36.k (p35.k (p34.k (p33.k (p32.k (p31.k (p30.k s7 rfl) rfl) rfl) rfl) rfl) rfl) rfl) rfl) ?_)
  intro a38 p38
  refine q_t p38.s rfl rfl (p38.k p37.v rfl) rfl rfl (g_move rfl (p38.k (p37.k (p36.k (p35.k (p34.k (p33.k (p32.k (p31.k (p30.k s6 rfl) rfl) rfl) rfl) rfl) rfl) rfl) rfl) rfl) ?_)
  intro a39 p39
  refine q_t p39.s rfl rfl (p39.k (p38.k p37.v rfl) rfl) rfl rfl ?_
  refine g_call rfl rfl Try.call35 (arr2 (p39.k p38.v rfl) p39.v) ?_
  refine (sameTexts_same _ hTall (take_len (by omega)) hN (by omega) (Rd.of_own o_tk) (Rd.of_own o_of)).mono ?_
  rintro e w157 ⟨rfl, hb156⟩
  refine ⟨_, rfl, ?_⟩
  replace h_q12 := keep_below h_q12 hb156
  replace h_q111 := keep_below h_q111 hb156
  replace hB := hB.trans (hb156.mono hB.size)
  clear hb156
  intro a40 p40
  refine q_v p40.s rfl rfl rfl (g_pick_t rfl (p40.k (p39.k (p38.k p37.v rfl) rfl) rfl) p40.v ?_)
  intro a41 p41
  have s197 : a41.eval (.tmp 197) = .bool true := p41.v
  refine q_v p41.s rfl rfl rfl (g_move rfl s197 ?_)
  intro a42 p42
  refine q_t p42.s rfl rfl p42.v rfl rfl (g_field (r := 3) rfl (p42.k (p41.k (p40.k (p39.k (p38.k (p37.k (p36.k (p35.k (p34.k (p33.k (p32.k (p31.k (p30.k s17 rfl) rfl) rfl) rfl) rfl) rfl) rfl) rfl) rfl) rfl) rfl) rfl) rfl) Try.underlying39 rfl (fun w => Try.sizeOf3 w) rfl rfl ?_)
  intro a43 p43
  refine q_t p43.s rfl rfl (p43.k p42.v rfl) rfl rfl (g_load rfl p43.v Try.isAgg3 (box_cell h_q111 rfl) ?_)
  intro a44 p44
  refine q_t p44.s rfl rfl (p44.k (p43.k p42.v rfl) rfl) rfl rfl (g_move rfl (p44.k (p43.k (p42.k (p41.k (p40.k (p39.k (p38.k (p37.k (p36.k (p35.k (p34.k (p33.k (p32.k (p31.k (p30.k s7 rfl) rfl) rfl) rfl) rfl) rfl) rfl) rfl) rfl) rfl) rfl) rfl) rfl) rfl) rfl) ?_)
  intro a45 p45
  refine q_t p45.s rfl rfl (p45.k (p44.k (p43.k p42.v rfl) rfl) rfl) rfl rfl (g_len (e := _) rfl Try.underlying43 p45.v ?_)
  intro a46 p46
  refine q_t p46.s rfl rfl (p46.k (p45.k (p44.k (p43.k p42.v rfl) rfl) rfl) rfl) rfl rfl (g_eql rfl (p46.k (p45.k p44.v rfl) rfl) p46.v ?_)
  intro a47 p47
  have s203 : a47.eval (.tmp 203) = .bool true := (p47.v).trans (congrArg Value.bool (decide_eq_true (by omega)))
  refine q_v p47.s rfl rfl rfl (g_pick_t rfl (p47.k (p46.k (p45.k (p44.k (p43.k p42.v rfl) rfl) rfl) rfl) rfl) s203 ?_)
  intro a48 p48
  have s204 : a48.eval (.tmp 204) = .bool true := p48.v
  refine q_v p48.s rfl rfl rfl (g_move rfl s204 ?_)
  intro a49 p49
  refine q_t p49.s rfl rfl p49.v rfl rfl (g_field (r := 3) rfl (p49.k (p48.k (p47.k (p46.k (p45.k (p44.k (p43.k (p42.k (p41.k (p40.k (p39.k (p38.k (p37.k (p36.k (p35.k (p34.k (p33.k (p32.k (p31.k (p30.k s5 rfl) rfl) rfl) rfl) rfl) rfl) rfl) rfl) rfl) rfl) rfl) rfl) rfl) rfl) rfl) rfl) rfl) rfl) rfl) rfl) Try.underlying25 rfl (fun w => Try.sizeOf3 w) rfl rfl ?_)
  intro a50 p50
  refine q_t p50.s rfl rfl (p50.k p49.v rfl) rfl rfl (g_load rfl p50.v Try.isAgg3 (box_cell h_q12 rfl) ?_)
  intro a51 p51
  refine q_t p51.s rfl rfl (p51.k (p50.k p49.v rfl) rfl) rfl rfl (g_move rfl (p51.k (p50.k (p49.k (p48.k (p47.k (p46.k (p45.k (p44.k (p43.k (p42.k (p41.k (p40.k (p39.k (p38.k (p37.k (p36.k (p35.k (p34.k (p33.k (p32.k (p31.k (p30.k s7 rfl) rfl) rfl) rfl) rfl) rfl) rfl) rfl) rfl) rfl) rfl) rfl) rfl) rfl) rfl) rfl) rfl) rfl) rfl) rfl) rfl) rfl) ?_)
  intro a52 p52
  refine q_t p52.s rfl rfl (p52.k (p51.k (p50.k p49.v rfl) rfl) rfl) rfl rfl (g_len (e := _) rfl Try.underlying43 p52.v ?_)
  intro a53 p53
  refine q_t p53.s rfl rfl (p53.k (p52.k (p51.k (p50.k p49.v rfl) rfl) rfl) rfl) rfl rfl (g_eql rfl (p53.k (p52.k p51.v rfl) rfl) p53.v ?_)
  intro a54 p54
  have s210 : a54.eval (.tmp 210) = .bool true := (p54.v).trans (congrArg Value.bool (decide_eq_true (by omega)))
  refine q_v p54.s rfl rfl rfl (g_pick_t rfl (p54.k (p53.k (p52.k (p51.k (p50.k p49.v rfl) rfl) rfl) rfl) rfl) s210 ?_)
  intro a55 p55
  have s211 : a55.eval (.tmp 211) = .bool true := p55.v
  refine q_v p55.s rfl rfl rfl (g_assign rfl s211 ?_)
  intro a56 p56
  refine wpList_nil ?_
  replace s2 := p56.v
  refine hK155 _ _ ?_
  clear hK155
  refine wp_ret ?_
  try dsimp only [Exit.then, Exit.inBlock]
  refine ret1 p56.s Try.results6 (res_tmp s2) ?_
  exact ⟨rfl, hB⟩
end Go.Proofs.Ytpnejmlbfadaaaa
