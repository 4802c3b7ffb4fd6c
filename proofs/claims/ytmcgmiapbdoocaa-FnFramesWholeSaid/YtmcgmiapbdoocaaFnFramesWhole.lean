/- All packets come out of their frames, in order, and nothing is left. No condition. -/
import Derived.Test.YtmcgmiapbdoocaaFrmAt
import Derived.Test.YtmcgmiapbdoocaaFrmSame
namespace Go.Proofs.Ytmcgmiapbdoocaa
open Go.RowKit

/-- What holds ahead of the k-th packet: P is what was packed so far, i frames were taken. -/
structure FwI (c0 : Int) (os : List EPacket) (k : Nat) (P : List EPacket) (i : Nat) (u : EUnp) (got : List EPacket) : Prop where
  le : k ≤ os.length
  uw : Uw c0 P i u got
  len : (flatP P).length < 24 * i + 24
  all : ∀ x ∈ P, pkOk x = true
  idle : notIdle P = os.take k
  pl : P.length ≤ 8 * k
theorem Uw.gl {c0 : Int} {P : List EPacket} {i : Nat} {u : EUnp} {got : List EPacket} (h : Uw c0 P i u got) : got.length ≤ P.length := by
  obtain ⟨A, B, hA, hg, _⟩ := h.st
  have := notIdle_len A
  have e := congrArg List.length hA.eq
  rw [List.length_append] at e
  rw [hg]
  omega
theorem FwI.zero (c0 : Int) (os : List EPacket) : FwI c0 os 0 [] 0 newU [] := ⟨Nat.zero_le _, Uw.new c0, by simp [flatP], fun x hx => (List.not_mem_nil hx).elim, rfl, Nat.le_refl _⟩
theorem FwI.step {c0 : Int} {os P P2 I : List EPacket} {k i j : Nat} {u : EUnp} {got : List EPacket} (h0 : 0 ≤ c0) (h : FwI c0 os k P i u got) (hD : DrawnPks os) (hk : k < os.length) (hP : (P ++ [os[k]]) ++ I = P2) (hI : ∀ x ∈ I, pkOk x = true ∧ x.f0 = 15) (hIl : I.length ≤ 7)
    (h1 : 24 * (i + j) ≤ (flatP P2).length) (h2 : (flatP P2).length < 24 * (i + j) + 24) :
    PushOk u (frs P2 c0 i j) ∧ FwI c0 os (k + 1) P2 (i + j) (pushUs u (frs P2 c0 i j)) (got ++ pushLs u (frs P2 c0 i j)) := by
  have hw := h.uw.more ([os[k]] ++ I)
  rw [← List.append_assoc, hP] at hw
  have hx := hD _ (List.getElem_mem hk)
  have hall : ∀ x ∈ P2, pkOk x = true := by
    intro x hx'
    rw [← hP] at hx'
    rcases List.mem_append.1 hx' with h' | h'
    · rcases List.mem_append.1 h' with h'' | h''
      · exact h.all x h''
      · rw [List.mem_singleton.1 h'']; exact hx.1
    · exact (hI x h').1
  obtain ⟨g1, g2⟩ := whole_all h0 hall j i u got h1 hw
  refine ⟨g1, hk, g2, h2, hall, ?_, ?_⟩
  · rw [← hP, notIdle_append, notIdle_append, h.idle, notIdle_nil (fun x hx => (hI x hx).2), List.append_nil, notIdle_id (l := [os[k]]) (fun x hx' => by rw [List.mem_singleton.1 hx']; have := hx.2; omega), List.take_succ_eq_append_getElem hk]
  · have := h.pl
    rw [← hP]
    simp only [List.length_append, List.length_cons, List.length_nil]
    omega
theorem FwI.fin {c0 : Int} {os P I : List EPacket} {i j : Nat} {u : EUnp} {got : List EPacket} (h0 : 0 ≤ c0) (h : FwI c0 os os.length P i u got) (hI : ∀ x ∈ I, pkOk x = true ∧ x.f0 = 15) (h1 : (flatP (P ++ I)).length = 24 * (i + j)) :
    PushOk u (frs (P ++ I) c0 i j) ∧ got ++ pushLs u (frs (P ++ I) c0 i j) = os ∧ (pushUs u (frs (P ++ I) c0 i j)).lost = 0 ∧ (pushUs u (frs (P ++ I) c0 i j)).rest = [] ∧ unpOk (pushUs u (frs (P ++ I) c0 i j)) = true := by
  have hall : ∀ x ∈ P ++ I, pkOk x = true := fun x hx => (List.mem_append.1 hx).elim (h.all x) (fun h => (hI x h).1)
  obtain ⟨g1, g2⟩ := whole_all h0 hall j i u got (by omega) (h.uw.more I)
  obtain ⟨e1, e2, e3⟩ := g2.end h1
  refine ⟨g1, ?_, e2, e3, g2.v.ok (by omega)⟩
  rw [e1, notIdle_append, h.idle, notIdle_nil (fun x hx => (hI x hx).2), List.append_nil, List.take_length]
theorem packerOk_yes {ch ct : Int} {rest : List UInt8} {B : Option Addr} {m dp : Nat} {ds : List Int} (w : World) (h : pkrOk ch ct rest ds = true) (hx : Txt rest) (hm : ds.length = m) (hbm : m ≤ 1048577) (hr : Rd w 1 B m (ds.flatMap cI)) :
    Calls Try.prog 31 #[.agg #[.int .i64 ch, .int .i64 ct, .string ⟨rest.toArray⟩, .slice B m dp]] w fun e w' => e = .returned (.bool true) ∧ Below w.heap.size w w' := by
  have := packerOk_any ch ct rest B m dp ds w hx hm hbm hr
  rw [h] at this
  exact this
theorem idle_few {P I : List EPacket} (h : (flatP (P ++ I)).length ≤ (flatP P).length + 27) : I.length ≤ 6 := by
  have := flatP_len4 I
  rw [flatP_append, List.length_append] at h
  omega
set_option maxRecDepth 100000 in
set_option maxHeartbeats 8000000 in
theorem fnFramesWhole_walk {w : World} (A : Option Addr) (n c : Nat) (bs : List UInt8) (hlen : bs.length = n) (hnc : n ≤ c) (hcm : c ≤ maxLen) (hr_cc : Rd w 1 A n (bs.flatMap cB)) :
    Calls Try.prog 6 #[.slice A n c] w fun e w' => e = .returned (.bool true) ∧ Below w.heap.size w w' := by
  have hcm2 := hcm
  unfold maxLen at hcm2
  refine enter 114 Try.func6 rfl rfl (Nat.le_of_ble_eq_true rfl) ?_
  intro a0 hs hargs
  have s0 : a0.eval (.tmp 0) = .slice A n c := hargs 0 _ rfl
  clear hargs
  have hB : Below w.heap.size w w := Below.refl _ _
  refine wp_seq_k fun K1 hK1 => ?_
  refine wp_region_lit ?_
  refine q_val rfl rfl ?_
  refine g_assign rfl rfl ?_
  intro a1 p1
  have s2 : a1.eval (.tmp 2) = .bool false := p1.at hs (by decide)
  replace hs := p1.st hs
  refine wpList_nil ?_
  replace s0 : a1.eval (.tmp 0) = .slice A n c := (p1.ne rfl).trans s0
  refine hK1 _ _ ?_
  clear hK1
  refine wp_seq_k fun K2 hK2 => ?_
  refine wp_seq_k fun K3 hK3 => ?_
  refine wp_region_lit ?_
  refine q_val rfl rfl ?_
  refine g_move rfl s0 ?_
  intro a2 p2
  have s17 : a2.eval (.tmp 17) = .slice A n c := p2.at hs (by decide)
  replace hs := p2.st hs
  refine q_val rfl rfl ?_
  refine g_call rfl rfl Try.call7 (arr1 s17) ?_
  refine (big_any _ _ _ _ (by omega)).mono ?_
  rintro e w' ⟨rfl, rfl⟩
  refine ⟨_, rfl, ?_⟩
  intro a3 p3
  have s18 : a3.eval (.tmp 18) = .bool (decide (1048576 < ((n : Nat) : Int))) := p3.at hs (by decide)
  replace hs := p3.st hs
  refine wpList_nil ?_
  replace s0 : a3.eval (.tmp 0) = .slice A n c := ((p3.ne rfl).trans (p2.ne rfl)).trans s0
  replace s2 : a3.eval (.tmp 2) = .bool false := ((p3.ne rfl).trans (p2.ne rfl)).trans s2
  refine hK3 _ _ ?_
  clear hK3
  by_cases hbig : 1048576 < ((n : Nat) : Int)
  · replace s18 := s18.trans (congrArg Value.bool (decide_eq_true hbig))
    replace s18 : a3.eval (.tmp 18) = .bool true := s18
    refine c_true s18 ?_
    refine wp_seq_k fun K4 hK4 => ?_
    refine wp_region_lit ?_
    refine q_val rfl rfl ?_
    refine g_assign rfl rfl ?_
    intro a4 p4
    have s2 : a4.eval (.tmp 2) = .bool true := p4.at hs (by decide)
    replace hs := p4.st hs
    refine wpList_nil ?_
    replace s0 : a4.eval (.tmp 0) = .slice A n c := (p4.ne rfl).trans s0
    refine hK4 _ _ ?_
    clear hK4
    refine wp_ret ?_
    try dsimp only [Exit.then, Exit.inBlock]
    refine ret1 hs Try.results6 (res_tmp s2) ?_
    exact ⟨rfl, hB⟩
  · replace s18 := s18.trans (congrArg Value.bool (decide_eq_false hbig))
    replace s18 : a3.eval (.tmp 18) = .bool false := s18
    refine c_false s18 ?_
    refine wp_skip ?_
    refine hK2 _ _ ?_
    clear hK2
    refine wp_seq_k fun K5 hK5 => ?_
    refine wp_region_lit ?_
    refine q_val rfl rfl ?_
    refine g_move rfl s0 ?_
    intro a4 p4
    have s19 : a4.eval (.tmp 19) = .slice A n c := p4.at hs (by decide)
    replace hs := p4.st hs
    refine q_val rfl rfl ?_
    refine g_call rfl rfl Try.call8 (arr1 s19) ?_
    refine (drawPackets_any A n c bs _ hlen (by omega) (hr_cc.below hB)).mono ?_
    rintro e w7 ⟨os, O, co, rfl, o_os, hD, hos1, hos2, hb6⟩
    refine ⟨_, rfl, ?_⟩
    have g_os : ∀ b, (O : Option Addr).map (·.block) = some b → w.heap.size ≤ b := fun b h => Nat.le_trans hB.size (own_row o_os b h).1
    replace o_os := own_base (base := w.heap.size) o_os hB.size
    replace hB := hB.trans (hb6.mono hB.size)
    clear hb6
    intro a5 p5
    have s20 : a5.eval (.tmp 20) = .slice O os.length co := p5.at hs (by decide)
    replace hs := p5.st hs
    refine q_val rfl rfl ?_
    refine g_assign rfl s20 ?_
    intro a6 p6
    have s3 : a6.eval (.tmp 3) = .slice O os.length co := p6.at hs (by decide)
    replace hs := p6.st hs
    refine wpList_nil ?_
    replace s0 : a6.eval (.tmp 0) = .slice A n c := ((p6.ne rfl).trans ((p5.ne rfl).trans (p4.ne rfl))).trans s0
    replace s2 : a6.eval (.tmp 2) = .bool false := ((p6.ne rfl).trans ((p5.ne rfl).trans (p4.ne rfl))).trans s2
    refine hK5 _ _ ?_
    clear hK5
    refine wp_seq_k fun K8 hK8 => ?_
    refine wp_region_lit ?_
    refine q_val rfl rfl ?_
    refine g_move rfl s0 ?_
    intro a7 p7
    have s21 : a7.eval (.tmp 21) = .slice A n c := p7.at hs (by decide)
    replace hs := p7.st hs
    refine q_val rfl rfl ?_
    refine g_call rfl rfl Try.call12 (arr2 s21 rfl) ?_
    refine (at_nat hlen hnc hcm (hr_cc.below hB) 0 (by omega)).mono ?_
    rintro e w' ⟨rfl, rfl⟩
    refine ⟨_, rfl, ?_⟩
    intro a8 p8
    have s22 : a8.eval (.tmp 22) = .int .i64 ((atN bs (0) : Nat) : Int) := p8.at hs (by decide)
    replace hs := p8.st hs
    refine q_val rfl rfl ?_
    refine g_build (cells := #[.int .i64 0, .int .i64 ((atN bs (0) : Nat) : Int), .string ⟨#[]⟩, .slice none 0 0]) rfl (arrB1 s22) (by kernel_rfl) ?_
    intro a9 p9
    have s23 : a9.eval (.tmp 23) = .agg #[.int .i64 0, .int .i64 ((atN bs (0) : Nat) : Int), .string ⟨#[]⟩, .slice none 0 0] := p9.at hs (by decide)
    replace hs := p9.st hs
    refine q_val rfl rfl ?_
    refine g_alloc rfl Try.zeroValue28 rfl ?_
    intro q9 w10 N_q9
    have d_os_q9 := own_ne_new o_os N_q9
    have g_q9 : GeB w.heap.size q9 := ⟨Nat.le_trans hB.size N_q9.lo⟩
    replace o_os := own_below o_os N_q9.below
    replace hB := below_new hB hB.size N_q9
    have h_q9 := N_q9.here
    clear N_q9
    intro a10 p10
    have s4 : a10.eval (.tmp 4) = .pointer (some ⟨q9, 0, none⟩) := p10.at hs (by decide)
    replace hs := p10.st hs
    refine q_eff rfl rfl ?_
    refine g_storeB rfl s4 ((p10.ne rfl).trans s23) Try.sizeOf28 rfl rfl h_q9 rfl ?_
    intro w11 W_w11
    replace h_q9 := W_w11.here
    replace o_os := own_wrote o_os W_w11 d_os_q9
    replace hB := below_wrote hB hB.size W_w11 g_q9.le
    clear W_w11
    refine wpList_nil ?_
    replace s0 : a10.eval (.tmp 0) = .slice A n c := ((p10.ne rfl).trans ((p9.ne rfl).trans ((p8.ne rfl).trans (p7.ne rfl)))).trans s0
    replace s2 : a10.eval (.tmp 2) = .bool false := ((p10.ne rfl).trans ((p9.ne rfl).trans ((p8.ne rfl).trans (p7.ne rfl)))).trans s2
    replace s3 : a10.eval (.tmp 3) = .slice O os.length co := ((p10.ne rfl).trans ((p9.ne rfl).trans ((p8.ne rfl).trans (p7.ne rfl)))).trans s3
    refine hK8 _ _ ?_
    clear hK8
    refine wp_seq_k fun K12 hK12 => ?_
    refine wp_region_lit ?_
    refine q_val rfl rfl ?_
    refine g_call rfl rfl Try.call14 (arr1 rfl) ?_
    refine (newUnpacker_any _).mono ?_
    rintro e w14 ⟨rfl, hb13⟩
    refine ⟨_, rfl, ?_⟩
    replace h_q9 := keep_below h_q9 hb13
    replace o_os := own_below o_os hb13
    replace hB := hB.trans (hb13.mono hB.size)
    clear hb13
    intro a11 p11
    have s24 : a11.eval (.tmp 24) = .agg #[.int .i64 newU.ch, .int .i64 newU.nx, .bool newU.sy, .string ⟨(newU.rest).toArray⟩, .int .i64 newU.lost] := p11.at hs (by decide)
    replace hs := p11.st hs
    refine q_val rfl rfl ?_
    refine g_alloc rfl Try.zeroValue42 rfl ?_
    intro q15 w16 N_q15
    have n_q9_q15 := N_q15.ne ⟨lt_of_block h_q9⟩
    have n_q15_q9 := n_q9_q15.symm
    have d_os_q15 := own_ne_new o_os N_q15
    have g_q15 : GeB w.heap.size q15 := ⟨Nat.le_trans hB.size N_q15.lo⟩
    replace h_q9 := keep_below h_q9 N_q15.below
    replace o_os := own_below o_os N_q15.below
    replace hB := below_new hB hB.size N_q15
    have h_q15 := N_q15.here
    clear N_q15
    intro a12 p12
    have s5 : a12.eval (.tmp 5) = .pointer (some ⟨q15, 0, none⟩) := p12.at hs (by decide)
    replace hs := p12.st hs
    refine q_eff rfl rfl ?_
    refine g_storeB rfl s5 ((p12.ne rfl).trans s24) Try.sizeOf42 rfl rfl h_q15 rfl ?_
    intro w17 W_w17
    replace h_q9 := keep_wrote h_q9 W_w17 n_q15_q9
    replace h_q15 := W_w17.here
    replace o_os := own_wrote o_os W_w17 d_os_q15
    replace hB := below_wrote hB hB.size W_w17 g_q15.le
    clear W_w17
    refine wpList_nil ?_
    replace s0 : a12.eval (.tmp 0) = .slice A n c := ((p12.ne rfl).trans (p11.ne rfl)).trans s0
    replace s2 : a12.eval (.tmp 2) = .bool false := ((p12.ne rfl).trans (p11.ne rfl)).trans s2
    replace s3 : a12.eval (.tmp 3) = .slice O os.length co := ((p12.ne rfl).trans (p11.ne rfl)).trans s3
    replace s4 : a12.eval (.tmp 4) = .pointer (some ⟨q9, 0, none⟩) := ((p12.ne rfl).trans (p11.ne rfl)).trans s4
    refine hK12 _ _ ?_
    clear hK12
    refine wp_seq_k fun K18 hK18 => ?_
    have ha0 := atN_le bs 0
    obtain ⟨c0, hc0e⟩ : ∃ c0 : Int, c0 = ((atN bs 0 : Nat) : Int) := ⟨_, rfl⟩
    have hc0 : 0 ≤ c0 := by omega
    have o_e : w17.ownsRow w.heap.size 3 1 (.slice none 0 0) 0 ([].flatMap cI) := World.ownsRow_nil _ _ _ _
    have g_e : ∀ b, (none : Option Addr).map (·.block) = some b → w.heap.size ≤ b := fun b h => by cases h
    have d_e_q9 : (none : Option Addr).map (·.block) ≠ some q9 := fun h => by cases h
    have d_e_q15 : (none : Option Addr).map (·.block) ≠ some q15 := fun h => by cases h
    have m_os_e : ∀ b, (O : Option Addr).map (·.block) = some b → (none : Option Addr).map (·.block) ≠ some b := fun b _ h => by cases h
    have m_e_os := ne_row_symm m_os_e
    have hc1 : ((atN bs 0 : Nat) : Int) = (c0 + ((0 : Nat) : Int)) % 256 := by omega
    replace h_q9 : w17.heap[q9]? = some (.cells #[.int .i64 0, .int .i64 ((c0 + ((0 : Nat) : Int)) % 256), .string ⟨((flatP []).drop (24 * 0)).toArray⟩, .slice none 0 0] 28 (0, 0)) := by rw [← hc1]; exact h_q9
    refine wp_region_lit ?_
    refine q_val rfl rfl ?_
    refine g_bslice0 rfl Try.underlying24 Try.sizeOf32 ?_
    intro q19 w20 N_q19
    have n_q9_q19 := N_q19.ne ⟨lt_of_block h_q9⟩
    have n_q19_q9 := n_q9_q19.symm
    have n_q15_q19 := N_q19.ne ⟨lt_of_block h_q15⟩
    have n_q19_q15 := n_q15_q19.symm
    have d_os_q19 := own_ne_new o_os N_q19
    have d_e_q19 := own_ne_new o_e N_q19
    have g_q19 : GeB w.heap.size q19 := ⟨Nat.le_trans hB.size N_q19.lo⟩
    replace h_q9 := keep_below h_q9 N_q19.below
    replace h_q15 := keep_below h_q15 N_q19.below
    replace o_os := own_below o_os N_q19.below
    replace o_e := own_below o_e N_q19.below
    replace hB := below_new hB hB.size N_q19
    have h_q19 := N_q19.here
    clear N_q19
    intro a13 p13
    have s25 : a13.eval (.tmp 25) = .slice (some ⟨q19, 0, none⟩) 0 0 := p13.at hs (by decide)
    replace hs := p13.st hs
    refine q_val rfl rfl ?_
    refine g_assign rfl s25 ?_
    intro a14 p14
    have s6 : a14.eval (.tmp 6) = .slice (some ⟨q19, 0, none⟩) 0 0 := p14.at hs (by decide)
    replace hs := p14.st hs
    refine wpList_nil ?_
    replace s0 : a14.eval (.tmp 0) = .slice A n c := ((p14.ne rfl).trans (p13.ne rfl)).trans s0
    replace s2 : a14.eval (.tmp 2) = .bool false := ((p14.ne rfl).trans (p13.ne rfl)).trans s2
    replace s3 : a14.eval (.tmp 3) = .slice O os.length co := ((p14.ne rfl).trans (p13.ne rfl)).trans s3
    replace s4 : a14.eval (.tmp 4) = .pointer (some ⟨q9, 0, none⟩) := ((p14.ne rfl).trans (p13.ne rfl)).trans s4
    replace s5 : a14.eval (.tmp 5) = .pointer (some ⟨q15, 0, none⟩) := ((p14.ne rfl).trans (p13.ne rfl)).trans s5
    refine hK18 _ _ ?_
    clear hK18
    refine wp_seq_k fun K21 hK21 => ?_
    refine wp_seq_k fun K22 hK22 => ?_
    refine wp_region_lit ?_
    refine q_val rfl rfl ?_
    refine g_assign rfl rfl ?_
    intro a15 p15
    have s7 : a15.eval (.tmp 7) = .int .i64 0 := p15.at hs (by decide)
    replace hs := p15.st hs
    refine wpList_nil ?_
    replace s0 : a15.eval (.tmp 0) = .slice A n c := (p15.ne rfl).trans s0
    replace s2 : a15.eval (.tmp 2) = .bool false := (p15.ne rfl).trans s2
    replace s3 : a15.eval (.tmp 3) = .slice O os.length co := (p15.ne rfl).trans s3
    replace s4 : a15.eval (.tmp 4) = .pointer (some ⟨q9, 0, none⟩) := (p15.ne rfl).trans s4
    replace s5 : a15.eval (.tmp 5) = .pointer (some ⟨q15, 0, none⟩) := (p15.ne rfl).trans s5
    replace s6 : a15.eval (.tmp 6) = .slice (some ⟨q19, 0, none⟩) 0 0 := (p15.ne rfl).trans s6
    refine hK22 _ _ ?_
    clear hK22
    refine wp_block ?_
    have o_g : w20.ownsRow w.heap.size 32 3 (.slice (some ⟨q19, 0, none⟩) 0 0) 0 ([].flatMap cPacket) := own_box_row (base := w.heap.size) (xs := []) h_q19 g_q19.le rfl (by decide) rfl
    have g_g : ∀ b, (some ⟨q19, 0, none⟩ : Option Addr).map (·.block) = some b → w.heap.size ≤ b := ge_box g_q19.le
    have d_g_q9 : (some ⟨q19, 0, none⟩ : Option Addr).map (·.block) ≠ some q9 := neb_map n_q19_q9
    have d_g_q15 : (some ⟨q19, 0, none⟩ : Option Addr).map (·.block) ≠ some q15 := neb_map n_q19_q15
    have m_os_g : ∀ b, (O : Option Addr).map (·.block) = some b → (some ⟨q19, 0, none⟩ : Option Addr).map (·.block) ≠ some b := row_ne_box d_os_q19
    have m_g_os := ne_row_symm m_os_g
    have m_e_g : ∀ b, (none : Option Addr).map (·.block) = some b → (some ⟨q19, 0, none⟩ : Option Addr).map (·.block) ≠ some b := row_ne_box d_e_q19
    have m_g_e := ne_row_symm m_e_g
    refine wp_loop (fun a wr => ∃ (k : Nat) (P : List EPacket) (i : Nat) (u : EUnp) (got : List EPacket) (E : Option Addr) (ce : Nat) (G : Option Addr) (cg : Nat) (ng : Nat), (St 114 a) ∧ (a.eval (.tmp 0) = .slice A n c) ∧ (a.eval (.tmp 2) = .bool false) ∧ (a.eval (.tmp 3) = .slice O os.length co) ∧ (a.eval (.tmp 4) = .pointer (some ⟨q9, 0, none⟩)) ∧ (a.eval (.tmp 5) = .pointer (some ⟨q15, 0, none⟩)) ∧ (a.eval (.tmp 6) = .slice G ng cg) ∧ (a.eval (.tmp 7) = .int .i64 ((k : Nat) : Int)) ∧ (Below w.heap.size w wr) ∧ (wr.heap[q9]? = some (.cells #[.int .i64 0, .int .i64 ((c0 + ((i : Nat) : Int)) % 256), .string ⟨((flatP P).drop (24 * i)).toArray⟩, .slice E ((dsAt P (24 * i)).length) ce] 28 (0, 0))) ∧ (wr.heap[q15]? = some (.cells #[.int .i64 u.ch, .int .i64 u.nx, .bool u.sy, .string ⟨(u.rest).toArray⟩, .int .i64 u.lost] 42 (0, 0))) ∧ (wr.ownsRow w.heap.size 32 3 (.slice O os.length co) os.length (os.flatMap cPacket)) ∧ (wr.ownsRow w.heap.size 3 1 (.slice E ((dsAt P (24 * i)).length) ce) ((dsAt P (24 * i)).length) ((dsAt P (24 * i)).flatMap cI)) ∧ (wr.ownsRow w.heap.size 32 3 (.slice G ng cg) ng (got.flatMap cPacket)) ∧ ((E : Option Addr).map (·.block) ≠ some q9) ∧ ((E : Option Addr).map (·.block) ≠ some q15) ∧ (∀ b, (O : Option Addr).map (·.block) = some b → (E : Option Addr).map (·.block) ≠ some b) ∧ (∀ b, (E : Option Addr).map (·.block) = some b → (O : Option Addr).map (·.block) ≠ some b) ∧ (∀ b, (G : Option Addr).map (·.block) = some b → (E : Option Addr).map (·.block) ≠ some b) ∧ (∀ b, (E : Option Addr).map (·.block) = some b → w.heap.size ≤ b) ∧ ((G : Option Addr).map (·.block) ≠ some q9) ∧ ((G : Option Addr).map (·.block) ≠ some q15) ∧ (∀ b, (O : Option Addr).map (·.block) = some b → (G : Option Addr).map (·.block) ≠ some b) ∧ (∀ b, (G : Option Addr).map (·.block) = some b → (O : Option Addr).map (·.block) ≠ some b) ∧ (∀ b, (E : Option Addr).map (·.block) = some b → (G : Option Addr).map (·.block) ≠ some b) ∧ (∀ b, (G : Option Addr).map (·.block) = some b → w.heap.size ≤ b) ∧ (FwI c0 os k P i u got) ∧ (got.length = ng)) (fun a _ => os.length - (intOf (a.eval (.tmp 7))).toNat) (⟨0, [], 0, newU, [], none, 0, (some ⟨q19, 0, none⟩), 0, 0, hs, s0, s2, s3, s4, s5, s6, s7, hB, h_q9, h_q15, o_os, o_e, o_g, d_e_q9, d_e_q15, m_os_e, m_e_os, m_g_e, g_e, d_g_q9, d_g_q15, m_os_g, m_g_os, m_e_g, g_g, FwI.zero c0 os, rfl⟩) ?_
    intro a16 w24 hIv
    obtain ⟨k, P, i, u, got, E, ce, G, cg, ng, hIv⟩ := hIv
    have hs := hIv.1
    replace hIv := hIv.2
    have s0 := hIv.1
    replace hIv := hIv.2
    have s2 := hIv.1
    replace hIv := hIv.2
    have s3 := hIv.1
    replace hIv := hIv.2
    have s4 := hIv.1
    replace hIv := hIv.2
    have s5 := hIv.1
    replace hIv := hIv.2
    have s6 := hIv.1
    replace hIv := hIv.2
    have s7 := hIv.1
    replace hIv := hIv.2
    have hB := hIv.1
    replace hIv := hIv.2
    have h_q9 := hIv.1
    replace hIv := hIv.2
    have h_q15 := hIv.1
    replace hIv := hIv.2
    have o_os := hIv.1
    replace hIv := hIv.2
    have o_e := hIv.1
    replace hIv := hIv.2
    have o_g := hIv.1
    replace hIv := hIv.2
    have d_e_q9 := hIv.1
    replace hIv := hIv.2
    have d_e_q15 := hIv.1
    replace hIv := hIv.2
    have m_os_e := hIv.1
    replace hIv := hIv.2
    have m_e_os := hIv.1
    replace hIv := hIv.2
    have m_g_e := hIv.1
    replace hIv := hIv.2
    have g_e := hIv.1
    replace hIv := hIv.2
    have d_g_q9 := hIv.1
    replace hIv := hIv.2
    have d_g_q15 := hIv.1
    replace hIv := hIv.2
    have m_os_g := hIv.1
    replace hIv := hIv.2
    have m_g_os := hIv.1
    replace hIv := hIv.2
    have m_e_g := hIv.1
    replace hIv := hIv.2
    have g_g := hIv.1
    replace hIv := hIv.2
    have hI := hIv.1
    replace hIv := hIv.2
    have hng := hIv
    clear hIv
    have mu25 := s7
    have hIp := hI.pl
    have hIk := hI.le
    have hIl := hI.len
    have hIu := hI.uw.le
    have hdl := dsAt_len P (24 * i)
    have hgl := hI.uw.gl
    have hct : 0 ≤ (c0 + ((i : Nat) : Int)) % 256 ∧ (c0 + ((i : Nat) : Int)) % 256 ≤ 255 := by omega
    refine wp_seq_k fun K26 hK26 => ?_
    refine wp_seq_k fun K27 hK27 => ?_
    refine wp_region_lit ?_
    refine q_val rfl rfl ?_
    refine g_move rfl s7 ?_
    intro a17 p17
    have s26 : a17.eval (.tmp 26) = .int .i64 ((k : Nat) : Int) := p17.at hs (by decide)
    replace hs := p17.st hs
    refine q_val rfl rfl ?_
    refine g_move rfl ((p17.ne rfl).trans s3) ?_
    intro a18 p18
    have s27 : a18.eval (.tmp 27) = .slice O os.length co := p18.at hs (by decide)
    replace hs := p18.st hs
    refine q_val rfl rfl ?_
    refine g_len (e := _) rfl Try.underlying24 s27 ?_
    intro a19 p19
    have s28 : a19.eval (.tmp 28) = .int .i64 ((os.length : Nat) : Int) := p19.at hs (by decide)
    replace hs := p19.st hs
    refine q_val rfl rfl ?_
    refine g_lss rfl (((p19.ne rfl).trans (p18.ne rfl)).trans s26) s28 ?_
    intro a20 p20
    have s29 : a20.eval (.tmp 29) = .bool (decide (((k : Nat) : Int) < ((os.length : Nat) : Int))) := p20.at hs (by decide)
    replace hs := p20.st hs
    refine wpList_nil ?_
    replace s0 : a20.eval (.tmp 0) = .slice A n c := ((p20.ne rfl).trans ((p19.ne rfl).trans ((p18.ne rfl).trans (p17.ne rfl)))).trans s0
    replace s2 : a20.eval (.tmp 2) = .bool false := ((p20.ne rfl).trans ((p19.ne rfl).trans ((p18.ne rfl).trans (p17.ne rfl)))).trans s2
    replace s3 : a20.eval (.tmp 3) = .slice O os.length co := ((p20.ne rfl).trans ((p19.ne rfl).trans ((p18.ne rfl).trans (p17.ne rfl)))).trans s3
    replace s4 : a20.eval (.tmp 4) = .pointer (some ⟨q9, 0, none⟩) := ((p20.ne rfl).trans ((p19.ne rfl).trans ((p18.ne rfl).trans (p17.ne rfl)))).trans s4
    replace s5 : a20.eval (.tmp 5) = .pointer (some ⟨q15, 0, none⟩) := ((p20.ne rfl).trans ((p19.ne rfl).trans ((p18.ne rfl).trans (p17.ne rfl)))).trans s5
    replace s6 : a20.eval (.tmp 6) = .slice G ng cg := ((p20.ne rfl).trans ((p19.ne rfl).trans ((p18.ne rfl).trans (p17.ne rfl)))).trans s6
    replace s7 : a20.eval (.tmp 7) = .int .i64 ((k : Nat) : Int) := ((p20.ne rfl).trans ((p19.ne rfl).trans ((p18.ne rfl).trans (p17.ne rfl)))).trans s7
    refine hK27 _ _ ?_
    clear hK27
    by_cases hc28 : ((k : Nat) : Int) < ((os.length : Nat) : Int)
    · replace s29 := s29.trans (congrArg Value.bool (decide_eq_true hc28))
      replace s29 : a20.eval (.tmp 29) = .bool true := s29
      refine c_true s29 ?_
      refine wp_skip ?_
      refine hK26 _ _ ?_
      clear hK26
      refine wp_seq_k fun K29 hK29 => ?_
      refine wp_block ?_
      refine wp_seq_k fun K30 hK30 => ?_
      have hlt : k < os.length := by omega
      have hxok : pkOk os[k] = true := (hD _ (List.getElem_mem hlt)).1
      have hpb : (flatP P).length + 44 ≤ 24 * i + 5000 := by omega
      obtain ⟨P1, hP1⟩ : ∃ P1, P ++ [os[k]] = P1 := ⟨_, rfl⟩
      have hP1l : P1.length = P.length + 1 := by rw [← hP1, List.length_append]; rfl
      have hP1f : (flatP P1).length = (flatP P).length + (os[k].f2.length + 4) := by rw [← hP1, flatP_append, flatP_one, List.length_append, pkB_len]
      have hx40 := (pkOk_parts hxok).2.2
      have hfb : (flatP P1).length + 44 ≤ 24 * i + 5000 := by omega
      have hdl1 := dsAt_len P1 (24 * i)
      have hak := atN_le bs (k + 1)
      obtain ⟨b31, o32, hA33, hl_hc34, hc34⟩ := Rd.get cPacket_len (Rd.of_own o_os) rfl (i := k) (by omega)
      refine wp_drawn (n := 114) [8, 11] [10] [] (fun k_ v_ wx => match k_ with | 0 => v_ = .agg #[.int .i64 0, .int .i64 ((c0 + ((i : Nat) : Int)) % 256), .string ⟨((flatP P).drop (24 * i)).toArray⟩, .slice E ((dsAt P (24 * i)).length) ce] | 1 => v_ = .slice O os.length co | 2 => v_ = .int .i64 ((k : Nat) : Int) | 3 => v_ = .pointer (some ⟨b31, o32 + k * 3, none⟩) | 4 => v_ = .agg #[.int .i64 (os[k].f0), .int .i64 (os[k].f1), .string ⟨(os[k].f2).toArray⟩] | 5 => ∃ (A35 : Option Addr) (c35 : Nat), v_ = .tuple #[.agg #[.int .i64 0, .int .i64 ((c0 + ((i : Nat) : Int)) % 256), .string ⟨((flatP P1).drop (24 * i)).toArray⟩, .slice A35 ((dsAt P1 (24 * i)).length) c35], .bool true] ∧ ((wx).ownsRow w24.heap.size 3 1 (.slice A35 ((dsAt P1 (24 * i)).length) c35) ((dsAt P1 (24 * i)).length) ((dsAt P1 (24 * i)).flatMap cI)) | 6 => ∃ (A_r36 : Option Addr) (c_r36 : Nat), v_ = .tuple #[.agg #[.int .i64 0, .int .i64 ((c0 + ((i : Nat) : Int)) % 256), .string ⟨((flatP P1).drop (24 * i)).toArray⟩, .slice A_r36 ((dsAt P1 (24 * i)).length) c_r36], .bool true] ∧ ((wx).ownsRow w24.heap.size 3 1 (.slice A_r36 ((dsAt P1 (24 * i)).length) c_r36) ((dsAt P1 (24 * i)).length) ((dsAt P1 (24 * i)).flatMap cI)) | 7 => ∃ (A_r37 : Option Addr) (c_r37 : Nat), v_ = .agg #[.int .i64 0, .int .i64 ((c0 + ((i : Nat) : Int)) % 256), .string ⟨((flatP P1).drop (24 * i)).toArray⟩, .slice A_r37 ((dsAt P1 (24 * i)).length) c_r37] ∧ ((wx).ownsRow w24.heap.size 3 1 (.slice A_r37 ((dsAt P1 (24 * i)).length) c_r37) ((dsAt P1 (24 * i)).length) ((dsAt P1 (24 * i)).flatMap cI)) | 8 => v_ = .bool true | 9 => ∃ q38, v_ = .pointer (some ⟨q38, 0, none⟩) ∧ w24.heap.size ≤ q38 ∧ wx.heap[q38]? = some (.cells #[.int .i64 0, .int .i64 0, .string ⟨#[]⟩, .slice none 0 0] 28 (0, 0)) | 11 => v_ = .bool true | _ => True) (by kernel_rfl) (by kernel_rfl) (by kernel_rfl) (by kernel_rfl) hs.size ?_ ?_ ?_
      · intro i v wa wb hb hr
        rcases i with _ | _ | _ | _ | _ | _ | _ | _ | _ | _ | _ | _ | i
        · exact hr
        · exact hr
        · exact hr
        · exact hr
        · exact hr
        · obtain ⟨A35, c35, hr, o_x35⟩ := hr; exact ⟨A35, c35, hr, own_below o_x35 hb⟩
        · obtain ⟨A_r36, c_r36, hr, o_r36⟩ := hr; exact ⟨A_r36, c_r36, hr, own_below o_r36 hb⟩
        · obtain ⟨A_r37, c_r37, hr, o_r37⟩ := hr; exact ⟨A_r37, c_r37, hr, own_below o_r37 hb⟩
        · exact hr
        · obtain ⟨q38, hr, hg, hh⟩ := hr; exact ⟨q38, hr, hg, keep_below hh hb⟩
        · trivial
        · exact hr
        · trivial
      · refine d_step rfl rfl ?_ (d_step rfl rfl ?_ (d_step rfl rfl ?_ (d_step rfl rfl ?_ (d_step rfl rfl ?_ (d_step rfl rfl ?_ (d_step rfl rfl ?_ (d_step rfl rfl ?_ (d_late rfl rfl ?_ (d_step rfl rfl ?_ (d_chain rfl (d_late rfl rfl ?_ (d_nil))))))))))))
        · intro xv_ wx ρ hρ hwx hd K hK
          have e4 : ρ (.tmp 4) = .pointer (some ⟨q9, 0, none⟩) := (hρ.inn 4 rfl).trans s4
          have h_q9 := keep_below h_q9 hwx
          refine g_loadB rfl e4 Try.isAgg28 Try.sizeOf28 rfl h_q9 ?_
          exact hK _ _ (Below.refl _ _) rfl
        · intro xv_ wx ρ hρ hwx hd K hK
          have e3 : ρ (.tmp 3) = .slice O os.length co := (hρ.inn 3 rfl).trans s3
          refine g_move rfl e3 ?_
          exact hK _ _ (Below.refl _ _) rfl
        · intro xv_ wx ρ hρ hwx hd K hK
          have e7 : ρ (.tmp 7) = .int .i64 ((k : Nat) : Int) := (hρ.inn 7 rfl).trans s7
          refine g_move rfl e7 ?_
          exact hK _ _ (Below.refl _ _) rfl
        · intro xv_ wx ρ hρ hwx hd K hK
          obtain r1 : xv_ 1 = .slice O os.length co := hd 1 rfl
          have e34 : ρ (.tmp 34) = .slice O os.length co := (hρ.out 1 34 rfl (by rw [hs.size]; decide) rfl).trans r1
          obtain r2 : xv_ 2 = .int .i64 ((k : Nat) : Int) := hd 2 rfl
          have e35 : ρ (.tmp 35) = .int .i64 ((k : Nat) : Int) := (hρ.out 2 35 rfl (by rw [hs.size]; decide) rfl).trans r2
          refine g_index (r := o32 + k * 3) (k := k) rfl (e34.trans (slice_at hA33)) e35 Try.underlying24 (fun w => Try.sizeOf32 w) (by omega) rfl ?_
          exact hK _ _ (Below.refl _ _) rfl
        · intro xv_ wx ρ hρ hwx hd K hK
          obtain r3 : xv_ 3 = .pointer (some ⟨b31, o32 + k * 3, none⟩) := hd 3 rfl
          have e36 : ρ (.tmp 36) = .pointer (some ⟨b31, o32 + k * 3, none⟩) := (hρ.out 3 36 rfl (by rw [hs.size]; decide) rfl).trans r3
          have hc34 := elem_below hc34 hwx hl_hc34
          refine g_loadA (l := cPacket os[k]) rfl e36 Try.isAgg32 Try.sizeOf32 rfl (fun j u hu => by rw [Nat.add_assoc]; exact hc34 j u (by have := (List.getElem?_eq_some_iff.1 hu).1; exact this) hu) ?_
          exact hK _ _ (Below.refl _ _) rfl
        · intro xv_ wx ρ hρ hwx hd K hK
          obtain r0 : xv_ 0 = .agg #[.int .i64 0, .int .i64 ((c0 + ((i : Nat) : Int)) % 256), .string ⟨((flatP P).drop (24 * i)).toArray⟩, .slice E ((dsAt P (24 * i)).length) ce] := hd 0 rfl
          have e33 : ρ (.tmp 33) = .agg #[.int .i64 0, .int .i64 ((c0 + ((i : Nat) : Int)) % 256), .string ⟨((flatP P).drop (24 * i)).toArray⟩, .slice E ((dsAt P (24 * i)).length) ce] := (hρ.out 0 33 rfl (by rw [hs.size]; decide) rfl).trans r0
          obtain r4 : xv_ 4 = .agg #[.int .i64 (os[k].f0), .int .i64 (os[k].f1), .string ⟨(os[k].f2).toArray⟩] := hd 4 rfl
          have e37 : ρ (.tmp 37) = .agg #[.int .i64 (os[k].f0), .int .i64 (os[k].f1), .string ⟨(os[k].f2).toArray⟩] := (hρ.out 4 37 rfl (by rw [hs.size]; decide) rfl).trans r4
          refine g_call rfl (hρ.fn _) Try.call9 (arr2 e33 e37) ?_
          refine (packPacket_at (P := P) (P' := P1) (n := (24 * i)) (x := os[k]) hxok hI.uw.le hpb hct (by omega) hP1 rfl (own_nil o_e) ((Rd.of_own o_e).below hwx)).mono ?_
          rintro e wy ⟨A35, c35, rfl, o_x35, hb35⟩
          exact ⟨_, rfl, hK _ _ hb35 ⟨A35, c35, rfl, own_base o_x35 hwx.size⟩⟩
        · intro xv_ wx ρ hρ hwx hd K hK
          obtain ⟨A35, c35, r5, o_x35⟩ : ∃ (A35 : Option Addr) (c35 : Nat), xv_ 5 = .tuple #[.agg #[.int .i64 0, .int .i64 ((c0 + ((i : Nat) : Int)) % 256), .string ⟨((flatP P1).drop (24 * i)).toArray⟩, .slice A35 ((dsAt P1 (24 * i)).length) c35], .bool true] ∧ ((wx).ownsRow w24.heap.size 3 1 (.slice A35 ((dsAt P1 (24 * i)).length) c35) ((dsAt P1 (24 * i)).length) ((dsAt P1 (24 * i)).flatMap cI)) := hd 5 rfl
          have e38 : ρ (.tmp 38) = .tuple #[.agg #[.int .i64 0, .int .i64 ((c0 + ((i : Nat) : Int)) % 256), .string ⟨((flatP P1).drop (24 * i)).toArray⟩, .slice A35 ((dsAt P1 (24 * i)).length) c35], .bool true] := (hρ.out 5 38 rfl (by rw [hs.size]; decide) rfl).trans r5
          refine g_move rfl e38 ?_
          exact hK _ _ (Below.refl _ _) ⟨A35, c35, rfl, o_x35⟩
        · intro xv_ wx ρ hρ hwx hd K hK
          obtain ⟨A_r36, c_r36, r6, o_r36⟩ : ∃ (A_r36 : Option Addr) (c_r36 : Nat), xv_ 6 = .tuple #[.agg #[.int .i64 0, .int .i64 ((c0 + ((i : Nat) : Int)) % 256), .string ⟨((flatP P1).drop (24 * i)).toArray⟩, .slice A_r36 ((dsAt P1 (24 * i)).length) c_r36], .bool true] ∧ ((wx).ownsRow w24.heap.size 3 1 (.slice A_r36 ((dsAt P1 (24 * i)).length) c_r36) ((dsAt P1 (24 * i)).length) ((dsAt P1 (24 * i)).flatMap cI)) := hd 6 rfl
          have e32 : ρ (.tmp 32) = .tuple #[.agg #[.int .i64 0, .int .i64 ((c0 + ((i : Nat) : Int)) % 256), .string ⟨((flatP P1).drop (24 * i)).toArray⟩, .slice A_r36 ((dsAt P1 (24 * i)).length) c_r36], .bool true] := (hρ.out 6 32 rfl (by rw [hs.size]; decide) rfl).trans r6
          refine g_extract rfl e32 rfl ?_
          exact hK _ _ (Below.refl _ _) ⟨A_r36, c_r36, rfl, o_r36⟩
        · intro xv_ wx ρ hρ hwx hd
          obtain ⟨A_r36, c_r36, r6, o_r36⟩ : ∃ (A_r36 : Option Addr) (c_r36 : Nat), xv_ 6 = .tuple #[.agg #[.int .i64 0, .int .i64 ((c0 + ((i : Nat) : Int)) % 256), .string ⟨((flatP P1).drop (24 * i)).toArray⟩, .slice A_r36 ((dsAt P1 (24 * i)).length) c_r36], .bool true] ∧ ((wx).ownsRow w24.heap.size 3 1 (.slice A_r36 ((dsAt P1 (24 * i)).length) c_r36) ((dsAt P1 (24 * i)).length) ((dsAt P1 (24 * i)).flatMap cI)) := hd 6 rfl rfl
          have e32 : ρ (.tmp 32) = .tuple #[.agg #[.int .i64 0, .int .i64 ((c0 + ((i : Nat) : Int)) % 256), .string ⟨((flatP P1).drop (24 * i)).toArray⟩, .slice A_r36 ((dsAt P1 (24 * i)).length) c_r36], .bool true] := (hρ.out 6 32 rfl (by rw [hs.size]; decide) rfl).trans r6
          exact ⟨_, fun w' => l_extract rfl e32 rfl, rfl⟩
        · intro xv_ wx ρ hρ hwx hd K hK
          refine g_alloc rfl Try.zeroValue28 rfl ?_
          intro q w' N
          exact hK _ _ N.below ⟨q, rfl, Nat.le_trans hwx.size N.lo, N.here⟩
        · intro xv_ wx ρ hρ hwx hd
          obtain r8 : xv_ 8 = .bool true := hd 8 rfl rfl
          have e40 : ρ (.tmp 40) = .bool true := (hρ.out 8 40 rfl (by rw [hs.size]; decide) rfl).trans r8
          exact ⟨_, fun w' => l_assign rfl e40, rfl⟩
      · intro x0_ w39 hb_w39 hr0
        obtain r0 : x0_ 0 = .agg #[.int .i64 0, .int .i64 ((c0 + ((i : Nat) : Int)) % 256), .string ⟨((flatP P).drop (24 * i)).toArray⟩, .slice E ((dsAt P (24 * i)).length) ce] := hr0 0 (by decide) rfl rfl
        obtain r1 : x0_ 1 = .slice O os.length co := hr0 1 (by decide) rfl rfl
        obtain r2 : x0_ 2 = .int .i64 ((k : Nat) : Int) := hr0 2 (by decide) rfl rfl
        obtain r3 : x0_ 3 = .pointer (some ⟨b31, o32 + k * 3, none⟩) := hr0 3 (by decide) rfl rfl
        obtain r4 : x0_ 4 = .agg #[.int .i64 (os[k].f0), .int .i64 (os[k].f1), .string ⟨(os[k].f2).toArray⟩] := hr0 4 (by decide) rfl rfl
        obtain ⟨A35, c35, r5, o_x35⟩ : ∃ (A35 : Option Addr) (c35 : Nat), x0_ 5 = .tuple #[.agg #[.int .i64 0, .int .i64 ((c0 + ((i : Nat) : Int)) % 256), .string ⟨((flatP P1).drop (24 * i)).toArray⟩, .slice A35 ((dsAt P1 (24 * i)).length) c35], .bool true] ∧ ((w39).ownsRow w24.heap.size 3 1 (.slice A35 ((dsAt P1 (24 * i)).length) c35) ((dsAt P1 (24 * i)).length) ((dsAt P1 (24 * i)).flatMap cI)) := hr0 5 (by decide) rfl rfl
        obtain ⟨A_r36, c_r36, r6, o_r36⟩ : ∃ (A_r36 : Option Addr) (c_r36 : Nat), x0_ 6 = .tuple #[.agg #[.int .i64 0, .int .i64 ((c0 + ((i : Nat) : Int)) % 256), .string ⟨((flatP P1).drop (24 * i)).toArray⟩, .slice A_r36 ((dsAt P1 (24 * i)).length) c_r36], .bool true] ∧ ((w39).ownsRow w24.heap.size 3 1 (.slice A_r36 ((dsAt P1 (24 * i)).length) c_r36) ((dsAt P1 (24 * i)).length) ((dsAt P1 (24 * i)).flatMap cI)) := hr0 6 (by decide) rfl rfl
        obtain ⟨A_r37, c_r37, r7, o_r37⟩ : ∃ (A_r37 : Option Addr) (c_r37 : Nat), x0_ 7 = .agg #[.int .i64 0, .int .i64 ((c0 + ((i : Nat) : Int)) % 256), .string ⟨((flatP P1).drop (24 * i)).toArray⟩, .slice A_r37 ((dsAt P1 (24 * i)).length) c_r37] ∧ ((w39).ownsRow w24.heap.size 3 1 (.slice A_r37 ((dsAt P1 (24 * i)).length) c_r37) ((dsAt P1 (24 * i)).length) ((dsAt P1 (24 * i)).flatMap cI)) := hr0 7 (by decide) rfl rfl
        obtain ⟨q38, r9, g0_q38, h_q38⟩ : ∃ q38, x0_ 9 = .pointer (some ⟨q38, 0, none⟩) ∧ w24.heap.size ≤ q38 ∧ w39.heap[q38]? = some (.cells #[.int .i64 0, .int .i64 0, .string ⟨#[]⟩, .slice none 0 0] 28 (0, 0)) := hr0 9 (by decide) rfl rfl
        clear hr0
        have d_r37_q9 := own_ne_box o_r37 (lt_of_block h_q9)
        have d_r37_q15 := own_ne_box o_r37 (lt_of_block h_q15)
        have m_os_r37 := own_ne_row o_os o_r37 (Nat.le_refl _)
        have m_r37_os := ne_row_symm m_os_r37
        have m_e_r37 := own_ne_row o_e o_r37 (Nat.le_refl _)
        have m_r37_e := ne_row_symm m_e_r37
        have m_g_r37 := own_ne_row o_g o_r37 (Nat.le_refl _)
        have m_r37_g := ne_row_symm m_g_r37
        have g_r37 : ∀ b, (A_r37 : Option Addr).map (·.block) = some b → w.heap.size ≤ b := fun b h => Nat.le_trans hB.size (own_row o_r37 b h).1
        replace o_r37 := own_base (base := w.heap.size) o_r37 hB.size
        have n_q9_q38 : NeB q9 q38 := ⟨fun e => by have := lt_of_block h_q9; omega⟩
        have n_q38_q9 := n_q9_q38.symm
        have n_q15_q38 : NeB q15 q38 := ⟨fun e => by have := lt_of_block h_q15; omega⟩
        have n_q38_q15 := n_q15_q38.symm
        have d_os_q38 := own_ne o_os (.inr g0_q38)
        have d_e_q38 := own_ne o_e (.inr g0_q38)
        have d_g_q38 := own_ne o_g (.inr g0_q38)
        have g_q38 : GeB w.heap.size q38 := ⟨Nat.le_trans hB.size g0_q38⟩
        clear g0_q38
        have d_r37_q38 := own_ne_cells o_r37 h_q38 (by decide)
        replace h_q9 := keep_below h_q9 hb_w39
        replace h_q15 := keep_below h_q15 hb_w39
        replace o_os := own_below o_os hb_w39
        replace o_e := own_below o_e hb_w39
        replace o_g := own_below o_g hb_w39
        replace hB := hB.trans (hb_w39.mono hB.size)
        clear hb_w39
        intro op_ ho_ xv_ ρ hρ qx_ ql_ qk_
        obtain rfl := Option.some.inj ho_
        clear ho_
        have e8 : ρ (.tmp 8) = .pointer (some ⟨q38, 0, none⟩) := (hρ.out 9 8 rfl (by rw [hs.size]; decide) rfl).trans ((qx_ 9 (by decide) rfl rfl).trans r9)
        have e39 : ρ (.tmp 39) = .agg #[.int .i64 0, .int .i64 ((c0 + ((i : Nat) : Int)) % 256), .string ⟨((flatP P1).drop (24 * i)).toArray⟩, .slice A_r37 ((dsAt P1 (24 * i)).length) c_r37] := (hρ.out 7 39 rfl (by rw [hs.size]; decide) rfl).trans ((qx_ 7 (by decide) rfl rfl).trans r7)
        refine g_storeB rfl e8 e39 Try.sizeOf28 rfl rfl h_q38 rfl ?_
        intro w40 W_w40
        replace h_q9 := keep_wrote h_q9 W_w40 n_q38_q9
        replace h_q15 := keep_wrote h_q15 W_w40 n_q38_q15
        replace h_q38 := W_w40.here
        replace o_os := own_wrote o_os W_w40 d_os_q38
        replace o_e := own_wrote o_e W_w40 d_e_q38
        replace o_g := own_wrote o_g W_w40 d_g_q38
        replace o_r37 := own_wrote o_r37 W_w40 d_r37_q38
        replace hB := below_wrote hB hB.size W_w40 g_q38.le
        clear W_w40
        clear e39 e8
        clear hρ qx_ ql_ qk_
        intro xv_ a21 hρ hsz hdf qx_ ql_ qk_ qlk_
        replace s0 : a21.eval (.tmp 0) = .slice A n c := (hρ.inn 0 rfl).trans s0
        replace s2 : a21.eval (.tmp 2) = .bool false := (hρ.inn 2 rfl).trans s2
        replace s3 : a21.eval (.tmp 3) = .slice O os.length co := (hρ.inn 3 rfl).trans s3
        replace s4 : a21.eval (.tmp 4) = .pointer (some ⟨q9, 0, none⟩) := (hρ.inn 4 rfl).trans s4
        replace s5 : a21.eval (.tmp 5) = .pointer (some ⟨q15, 0, none⟩) := (hρ.inn 5 rfl).trans s5
        replace s6 : a21.eval (.tmp 6) = .slice G ng cg := (hρ.inn 6 rfl).trans s6
        replace s7 : a21.eval (.tmp 7) = .int .i64 ((k : Nat) : Int) := (hρ.inn 7 rfl).trans s7
        have s8 : a21.eval (.tmp 8) = .pointer (some ⟨q38, 0, none⟩) := (hρ.out 9 8 rfl (by rw [hs.size]; decide)).trans ((qx_ 9 (by decide) rfl rfl).trans r9)
        have s9 : a21.eval (.tmp 9) = .bool true := (hρ.out 11 9 rfl (by rw [hs.size]; decide)).trans (ql_ 11 (by decide) rfl)
        replace s29 : a21.eval (.tmp 29) = .bool true := (hρ.inn 29 rfl).trans s29
        replace hs : St 114 a21 := ⟨hsz.trans hs.size, hdf.trans hs.nodef⟩
        clear hρ hsz hdf qx_ ql_ qk_ qlk_
        refine hK30 _ _ ?_
        clear hK30
        refine wp_seq_k fun K41 hK41 => ?_
        refine wp_seq_k fun K42 hK42 => ?_
        refine wp_region_lit ?_
        refine q_val rfl rfl ?_
        refine g_move rfl s9 ?_
        intro a22 p22
        have s41 : a22.eval (.tmp 41) = .bool true := p22.at hs (by decide)
        replace hs := p22.st hs
        refine q_val rfl rfl ?_
        refine g_not rfl s41 ?_
        intro a23 p23
        have s42 : a23.eval (.tmp 42) = .bool false := p23.at hs (by decide)
        replace hs := p23.st hs
        refine wpList_nil ?_
        replace s0 : a23.eval (.tmp 0) = .slice A n c := ((p23.ne rfl).trans (p22.ne rfl)).trans s0
        replace s2 : a23.eval (.tmp 2) = .bool false := ((p23.ne rfl).trans (p22.ne rfl)).trans s2
        replace s3 : a23.eval (.tmp 3) = .slice O os.length co := ((p23.ne rfl).trans (p22.ne rfl)).trans s3
        replace s4 : a23.eval (.tmp 4) = .pointer (some ⟨q9, 0, none⟩) := ((p23.ne rfl).trans (p22.ne rfl)).trans s4
        replace s5 : a23.eval (.tmp 5) = .pointer (some ⟨q15, 0, none⟩) := ((p23.ne rfl).trans (p22.ne rfl)).trans s5
        replace s6 : a23.eval (.tmp 6) = .slice G ng cg := ((p23.ne rfl).trans (p22.ne rfl)).trans s6
        replace s7 : a23.eval (.tmp 7) = .int .i64 ((k : Nat) : Int) := ((p23.ne rfl).trans (p22.ne rfl)).trans s7
        replace s8 : a23.eval (.tmp 8) = .pointer (some ⟨q38, 0, none⟩) := ((p23.ne rfl).trans (p22.ne rfl)).trans s8
        replace s9 : a23.eval (.tmp 9) = .bool true := ((p23.ne rfl).trans (p22.ne rfl)).trans s9
        replace s29 : a23.eval (.tmp 29) = .bool true := ((p23.ne rfl).trans (p22.ne rfl)).trans s29
        refine hK42 _ _ ?_
        clear hK42
        refine c_false s42 ?_
        refine wp_skip ?_
        refine hK41 _ _ ?_
        clear hK41
        refine wp_seq_k fun K43 hK43 => ?_
        refine wp_seq_k fun K44 hK44 => ?_
        refine wp_region_lit ?_
        refine q_val rfl rfl ?_
        refine g_move rfl s0 ?_
        intro a24 p24
        have s43 : a24.eval (.tmp 43) = .slice A n c := p24.at hs (by decide)
        replace hs := p24.st hs
        refine q_val rfl rfl ?_
        refine g_move rfl ((p24.ne rfl).trans s7) ?_
        intro a25 p25
        have s44 : a25.eval (.tmp 44) = .int .i64 ((k : Nat) : Int) := p25.at hs (by decide)
        replace hs := p25.st hs
        refine q_val rfl rfl ?_
        refine g_add (r := ((k + 1 : Nat) : Int)) rfl s44 rfl (by omega) (by omega) ?_
        intro a26 p26
        have s45 : a26.eval (.tmp 45) = .int .i64 ((k + 1 : Nat) : Int) := p26.at hs (by decide)
        replace hs := p26.st hs
        refine q_val rfl rfl ?_
        refine g_call rfl rfl Try.call12 (arr2 (((p26.ne rfl).trans (p25.ne rfl)).trans s43) s45) ?_
        refine (at_nat hlen hnc hcm (hr_cc.below hB) (k + 1) (by omega)).mono ?_
        rintro e w' ⟨rfl, rfl⟩
        refine ⟨_, rfl, ?_⟩
        intro a27 p27
        have s46 : a27.eval (.tmp 46) = .int .i64 ((atN bs (k + 1) : Nat) : Int) := p27.at hs (by decide)
        replace hs := p27.st hs
        refine q_val rfl rfl ?_
        refine g_rem (N := atN bs (k + 1)) (M := 3) rfl s46 rfl (by omega) rfl (by decide) (by decide) ?_
        intro a28 p28
        have s47 : a28.eval (.tmp 47) = .int .i64 (((atN bs (k + 1)) % 3 : Nat) : Int) := p28.at hs (by decide)
        replace hs := p28.st hs
        refine q_val rfl rfl ?_
        refine g_eql rfl s47 rfl ?_
        intro a29 p29
        have s48 : a29.eval (.tmp 48) = .bool (decide ((((atN bs (k + 1)) % 3 : Nat) : Int) = 0)) := p29.at hs (by decide)
        replace hs := p29.st hs
        refine wpList_nil ?_
        replace s0 : a29.eval (.tmp 0) = .slice A n c := ((p29.ne rfl).trans ((p28.ne rfl).trans ((p27.ne rfl).trans ((p26.ne rfl).trans ((p25.ne rfl).trans (p24.ne rfl)))))).trans s0
        replace s2 : a29.eval (.tmp 2) = .bool false := ((p29.ne rfl).trans ((p28.ne rfl).trans ((p27.ne rfl).trans ((p26.ne rfl).trans ((p25.ne rfl).trans (p24.ne rfl)))))).trans s2
        replace s3 : a29.eval (.tmp 3) = .slice O os.length co := ((p29.ne rfl).trans ((p28.ne rfl).trans ((p27.ne rfl).trans ((p26.ne rfl).trans ((p25.ne rfl).trans (p24.ne rfl)))))).trans s3
        replace s4 : a29.eval (.tmp 4) = .pointer (some ⟨q9, 0, none⟩) := ((p29.ne rfl).trans ((p28.ne rfl).trans ((p27.ne rfl).trans ((p26.ne rfl).trans ((p25.ne rfl).trans (p24.ne rfl)))))).trans s4
        replace s5 : a29.eval (.tmp 5) = .pointer (some ⟨q15, 0, none⟩) := ((p29.ne rfl).trans ((p28.ne rfl).trans ((p27.ne rfl).trans ((p26.ne rfl).trans ((p25.ne rfl).trans (p24.ne rfl)))))).trans s5
        replace s6 : a29.eval (.tmp 6) = .slice G ng cg := ((p29.ne rfl).trans ((p28.ne rfl).trans ((p27.ne rfl).trans ((p26.ne rfl).trans ((p25.ne rfl).trans (p24.ne rfl)))))).trans s6
        replace s7 : a29.eval (.tmp 7) = .int .i64 ((k : Nat) : Int) := ((p29.ne rfl).trans ((p28.ne rfl).trans ((p27.ne rfl).trans ((p26.ne rfl).trans ((p25.ne rfl).trans (p24.ne rfl)))))).trans s7
        replace s8 : a29.eval (.tmp 8) = .pointer (some ⟨q38, 0, none⟩) := ((p29.ne rfl).trans ((p28.ne rfl).trans ((p27.ne rfl).trans ((p26.ne rfl).trans ((p25.ne rfl).trans (p24.ne rfl)))))).trans s8
        replace s9 : a29.eval (.tmp 9) = .bool true := ((p29.ne rfl).trans ((p28.ne rfl).trans ((p27.ne rfl).trans ((p26.ne rfl).trans ((p25.ne rfl).trans (p24.ne rfl)))))).trans s9
        replace s29 : a29.eval (.tmp 29) = .bool true := ((p29.ne rfl).trans ((p28.ne rfl).trans ((p27.ne rfl).trans ((p26.ne rfl).trans ((p25.ne rfl).trans (p24.ne rfl)))))).trans s29
        replace s42 : a29.eval (.tmp 42) = .bool false := ((p29.ne rfl).trans ((p28.ne rfl).trans ((p27.ne rfl).trans ((p26.ne rfl).trans ((p25.ne rfl).trans (p24.ne rfl)))))).trans s42
        refine hK44 _ _ ?_
        clear hK44
        by_cases hc45 : (((atN bs (k + 1)) % 3 : Nat) : Int) = 0
        · replace s48 := s48.trans (congrArg Value.bool (decide_eq_true hc45))
          replace s48 : a29.eval (.tmp 48) = .bool true := s48
          refine c_true s48 ?_
          refine wp_region_lit ?_
          refine q_val rfl rfl ?_
          refine g_loadB rfl s8 Try.isAgg28 Try.sizeOf28 rfl h_q38 ?_
          intro a30 p30
          have s49 : a30.eval (.tmp 49) = .agg #[.int .i64 0, .int .i64 ((c0 + ((i : Nat) : Int)) % 256), .string ⟨((flatP P1).drop (24 * i)).toArray⟩, .slice A_r37 ((dsAt P1 (24 * i)).length) c_r37] := p30.at hs (by decide)
          replace hs := p30.st hs
          refine q_val rfl rfl ?_
          refine g_call rfl rfl Try.call11 (arr1 s49) ?_
          refine (fillPacker_at (P := P1) (n := (24 * i)) (by omega) hfb hct (by omega) rfl (own_nil o_r37) (Rd.of_own o_r37)).mono ?_
          rintro e w47 ⟨I46, A46, c46, rfl, o_x46, hi1, hi2, hi3, hb46⟩
          refine ⟨_, rfl, ?_⟩
          have d_x46_q9 := own_ne_box o_x46 (lt_of_block h_q9)
          have d_x46_q15 := own_ne_box o_x46 (lt_of_block h_q15)
          have d_x46_q38 := own_ne_box o_x46 (lt_of_block h_q38)
          have m_os_x46 := own_ne_row o_os o_x46 (Nat.le_refl _)
          have m_x46_os := ne_row_symm m_os_x46
          have m_e_x46 := own_ne_row o_e o_x46 (Nat.le_refl _)
          have m_x46_e := ne_row_symm m_e_x46
          have m_g_x46 := own_ne_row o_g o_x46 (Nat.le_refl _)
          have m_x46_g := ne_row_symm m_g_x46
          have m_r37_x46 := own_ne_row o_r37 o_x46 (Nat.le_refl _)
          have m_x46_r37 := ne_row_symm m_r37_x46
          have g_x46 : ∀ b, (A46 : Option Addr).map (·.block) = some b → w.heap.size ≤ b := fun b h => Nat.le_trans hB.size (own_row o_x46 b h).1
          replace o_x46 := own_base (base := w.heap.size) o_x46 hB.size
          replace h_q9 := keep_below h_q9 hb46
          replace h_q15 := keep_below h_q15 hb46
          replace h_q38 := keep_below h_q38 hb46
          replace o_os := own_below o_os hb46
          replace o_e := own_below o_e hb46
          replace o_g := own_below o_g hb46
          replace o_r37 := own_below o_r37 hb46
          replace hB := hB.trans (hb46.mono hB.size)
          clear hb46
          have hil := idle_few hi3
          intro a31 p31
          have s50 : a31.eval (.tmp 50) = .agg #[.int .i64 0, .int .i64 ((c0 + ((i : Nat) : Int)) % 256), .string ⟨((flatP (P1 ++ I46)).drop (24 * i)).toArray⟩, .slice A46 ((dsAt (P1 ++ I46) (24 * i)).length) c46] := p31.at hs (by decide)
          replace hs := p31.st hs
          refine q_eff rfl rfl ?_
          refine g_storeB rfl (((p31.ne rfl).trans (p30.ne rfl)).trans s8) s50 Try.sizeOf28 rfl rfl h_q38 rfl ?_
          intro w48 W_w48
          replace h_q9 := keep_wrote h_q9 W_w48 n_q38_q9
          replace h_q15 := keep_wrote h_q15 W_w48 n_q38_q15
          replace h_q38 := W_w48.here
          replace o_os := own_wrote o_os W_w48 d_os_q38
          replace o_e := own_wrote o_e W_w48 d_e_q38
          replace o_g := own_wrote o_g W_w48 d_g_q38
          replace o_r37 := own_wrote o_r37 W_w48 d_r37_q38
          replace o_x46 := own_wrote o_x46 W_w48 d_x46_q38
          replace hB := below_wrote hB hB.size W_w48 g_q38.le
          clear W_w48
          refine wpList_nil ?_
          replace s0 : a31.eval (.tmp 0) = .slice A n c := ((p31.ne rfl).trans (p30.ne rfl)).trans s0
          replace s2 : a31.eval (.tmp 2) = .bool false := ((p31.ne rfl).trans (p30.ne rfl)).trans s2
          replace s3 : a31.eval (.tmp 3) = .slice O os.length co := ((p31.ne rfl).trans (p30.ne rfl)).trans s3
          replace s4 : a31.eval (.tmp 4) = .pointer (some ⟨q9, 0, none⟩) := ((p31.ne rfl).trans (p30.ne rfl)).trans s4
          replace s5 : a31.eval (.tmp 5) = .pointer (some ⟨q15, 0, none⟩) := ((p31.ne rfl).trans (p30.ne rfl)).trans s5
          replace s6 : a31.eval (.tmp 6) = .slice G ng cg := ((p31.ne rfl).trans (p30.ne rfl)).trans s6
          replace s7 : a31.eval (.tmp 7) = .int .i64 ((k : Nat) : Int) := ((p31.ne rfl).trans (p30.ne rfl)).trans s7
          replace s8 : a31.eval (.tmp 8) = .pointer (some ⟨q38, 0, none⟩) := ((p31.ne rfl).trans (p30.ne rfl)).trans s8
          replace s9 : a31.eval (.tmp 9) = .bool true := ((p31.ne rfl).trans (p30.ne rfl)).trans s9
          replace s29 : a31.eval (.tmp 29) = .bool true := ((p31.ne rfl).trans (p30.ne rfl)).trans s29
          replace s42 : a31.eval (.tmp 42) = .bool false := ((p31.ne rfl).trans (p30.ne rfl)).trans s42
          replace s48 : a31.eval (.tmp 48) = .bool true := ((p31.ne rfl).trans (p30.ne rfl)).trans s48
          refine hK43 _ _ ?_
          clear hK43
          refine wp_seq_k fun K49 hK49 => ?_
          have hPo : (flatP P1).length ≤ (flatP (P1 ++ I46)).length := by rw [flatP_append, List.length_append]; omega
          clear hi2
          obtain ⟨j, hj⟩ : ∃ j, j = (flatP (P1 ++ I46)).length / 24 - i := ⟨_, rfl⟩
          have hj1 : 24 * (i + j) ≤ (flatP (P1 ++ I46)).length := by omega
          have hj2 : (flatP (P1 ++ I46)).length < 24 * (i + j) + 24 := by omega
          clear hj
          have hPl : (P1 ++ I46).length ≤ 1048576 := by rw [List.length_append]; omega
          obtain ⟨hps1, hps2⟩ := hI.step (P2 := (P1 ++ I46)) (I := I46) hc0 hD hlt (by rw [hP1]) hi1 (by omega) hj1 hj2
          have hgl2 := hps2.uw.gl
          have hpl2 := hps2.pl
          rw [List.length_append] at hgl2
          have hfl := frs_len (P1 ++ I46) c0 j i
          refine wp_region_lit ?_
          refine q_val rfl rfl ?_
          refine g_loadB rfl s8 Try.isAgg28 Try.sizeOf28 rfl h_q38 ?_
          intro a32 p32
          have s52 : a32.eval (.tmp 52) = .agg #[.int .i64 0, .int .i64 ((c0 + ((i : Nat) : Int)) % 256), .string ⟨((flatP (P1 ++ I46)).drop (24 * i)).toArray⟩, .slice A46 ((dsAt (P1 ++ I46) (24 * i)).length) c46] := p32.at hs (by decide)
          replace hs := p32.st hs
          refine q_val rfl rfl ?_
          refine g_call rfl rfl Try.call10 (arr1 s52) ?_
          refine (takeFrames_at (P := (P1 ++ I46)) (c0 := c0) (i := i) (k := j) rfl hc0 hj1 hj2 (by omega) hPl rfl (own_nil o_x46) (Rd.of_own o_x46)).mono ?_
          rintro e w51 ⟨A50, c50, G50, g50, rfl, o_x50, o_f50, hb50⟩
          refine ⟨_, rfl, ?_⟩
          have m_x50_f50 := own_ne_type o_x50 o_f50 (by decide)
          have m_f50_x50 := ne_row_symm m_x50_f50
          have d_x50_q9 := own_ne_box o_x50 (lt_of_block h_q9)
          have d_x50_q15 := own_ne_box o_x50 (lt_of_block h_q15)
          have d_x50_q38 := own_ne_box o_x50 (lt_of_block h_q38)
          have m_os_x50 := own_ne_row o_os o_x50 (Nat.le_refl _)
          have m_x50_os := ne_row_symm m_os_x50
          have m_e_x50 := own_ne_row o_e o_x50 (Nat.le_refl _)
          have m_x50_e := ne_row_symm m_e_x50
          have m_g_x50 := own_ne_row o_g o_x50 (Nat.le_refl _)
          have m_x50_g := ne_row_symm m_g_x50
          have m_r37_x50 := own_ne_row o_r37 o_x50 (Nat.le_refl _)
          have m_x50_r37 := ne_row_symm m_r37_x50
          have m_x46_x50 := own_ne_row o_x46 o_x50 (Nat.le_refl _)
          have m_x50_x46 := ne_row_symm m_x46_x50
          have g_x50 : ∀ b, (A50 : Option Addr).map (·.block) = some b → w.heap.size ≤ b := fun b h => Nat.le_trans hB.size (own_row o_x50 b h).1
          replace o_x50 := own_base (base := w.heap.size) o_x50 hB.size
          have d_f50_q9 := own_ne_box o_f50 (lt_of_block h_q9)
          have d_f50_q15 := own_ne_box o_f50 (lt_of_block h_q15)
          have d_f50_q38 := own_ne_box o_f50 (lt_of_block h_q38)
          have m_os_f50 := own_ne_row o_os o_f50 (Nat.le_refl _)
          have m_f50_os := ne_row_symm m_os_f50
          have m_e_f50 := own_ne_row o_e o_f50 (Nat.le_refl _)
          have m_f50_e := ne_row_symm m_e_f50
          have m_g_f50 := own_ne_row o_g o_f50 (Nat.le_refl _)
          have m_f50_g := ne_row_symm m_g_f50
          have m_r37_f50 := own_ne_row o_r37 o_f50 (Nat.le_refl _)
          have m_f50_r37 := ne_row_symm m_r37_f50
          have m_x46_f50 := own_ne_row o_x46 o_f50 (Nat.le_refl _)
          have m_f50_x46 := ne_row_symm m_x46_f50
          have g_f50 : ∀ b, (G50 : Option Addr).map (·.block) = some b → w.heap.size ≤ b := fun b h => Nat.le_trans hB.size (own_row o_f50 b h).1
          replace o_f50 := own_base (base := w.heap.size) o_f50 hB.size
          replace h_q9 := keep_below h_q9 hb50
          replace h_q15 := keep_below h_q15 hb50
          replace h_q38 := keep_below h_q38 hb50
          replace o_os := own_below o_os hb50
          replace o_e := own_below o_e hb50
          replace o_g := own_below o_g hb50
          replace o_r37 := own_below o_r37 hb50
          replace o_x46 := own_below o_x46 hb50
          replace hB := hB.trans (hb50.mono hB.size)
          clear hb50
          intro a33 p33
          have s53 : a33.eval (.tmp 53) = .tuple #[.agg #[.int .i64 0, .int .i64 ((c0 + ((i + j : Nat) : Int)) % 256), .string ⟨((flatP (P1 ++ I46)).drop (24 * (i + j))).toArray⟩, .slice A50 ((dsAt (P1 ++ I46) (24 * (i + j))).length) c50], .slice G50 ((frs (P1 ++ I46) c0 i j).length) g50] := p33.at hs (by decide)
          replace hs := p33.st hs
          refine q_val rfl rfl ?_
          refine g_move rfl s53 ?_
          intro a34 p34
          have s51 : a34.eval (.tmp 51) = .tuple #[.agg #[.int .i64 0, .int .i64 ((c0 + ((i + j : Nat) : Int)) % 256), .string ⟨((flatP (P1 ++ I46)).drop (24 * (i + j))).toArray⟩, .slice A50 ((dsAt (P1 ++ I46) (24 * (i + j))).length) c50], .slice G50 ((frs (P1 ++ I46) c0 i j).length) g50] := p34.at hs (by decide)
          replace hs := p34.st hs
          refine q_val rfl rfl ?_
          refine g_extract rfl s51 rfl ?_
          intro a35 p35
          have s54 : a35.eval (.tmp 54) = .agg #[.int .i64 0, .int .i64 ((c0 + ((i + j : Nat) : Int)) % 256), .string ⟨((flatP (P1 ++ I46)).drop (24 * (i + j))).toArray⟩, .slice A50 ((dsAt (P1 ++ I46) (24 * (i + j))).length) c50] := p35.at hs (by decide)
          replace hs := p35.st hs
          refine q_val rfl rfl ?_
          refine g_extract rfl ((p35.ne rfl).trans s51) rfl ?_
          intro a36 p36
          have s55 : a36.eval (.tmp 55) = .slice G50 ((frs (P1 ++ I46) c0 i j).length) g50 := p36.at hs (by decide)
          replace hs := p36.st hs
          refine q_val rfl rfl ?_
          refine g_alloc rfl Try.zeroValue28 rfl ?_
          intro q52 w53 N_q52
          have n_q9_q52 := N_q52.ne ⟨lt_of_block h_q9⟩
          have n_q52_q9 := n_q9_q52.symm
          have n_q15_q52 := N_q52.ne ⟨lt_of_block h_q15⟩
          have n_q52_q15 := n_q15_q52.symm
          have n_q38_q52 := N_q52.ne ⟨lt_of_block h_q38⟩
          have n_q52_q38 := n_q38_q52.symm
          have d_os_q52 := own_ne_new o_os N_q52
          have d_e_q52 := own_ne_new o_e N_q52
          have d_g_q52 := own_ne_new o_g N_q52
          have d_r37_q52 := own_ne_new o_r37 N_q52
          have d_x46_q52 := own_ne_new o_x46 N_q52
          have d_x50_q52 := own_ne_new o_x50 N_q52
          have d_f50_q52 := own_ne_new o_f50 N_q52
          have g_q52 : GeB w.heap.size q52 := ⟨Nat.le_trans hB.size N_q52.lo⟩
          replace h_q9 := keep_below h_q9 N_q52.below
          replace h_q15 := keep_below h_q15 N_q52.below
          replace h_q38 := keep_below h_q38 N_q52.below
          replace o_os := own_below o_os N_q52.below
          replace o_e := own_below o_e N_q52.below
          replace o_g := own_below o_g N_q52.below
          replace o_r37 := own_below o_r37 N_q52.below
          replace o_x46 := own_below o_x46 N_q52.below
          replace o_x50 := own_below o_x50 N_q52.below
          replace o_f50 := own_below o_f50 N_q52.below
          replace hB := below_new hB hB.size N_q52
          have h_q52 := N_q52.here
          clear N_q52
          intro a37 p37
          have s10 : a37.eval (.tmp 10) = .pointer (some ⟨q52, 0, none⟩) := p37.at hs (by decide)
          replace hs := p37.st hs
          refine q_eff rfl rfl ?_
          refine g_storeB rfl s10 (((p37.ne rfl).trans (p36.ne rfl)).trans s54) Try.sizeOf28 rfl rfl h_q52 rfl ?_
          intro w54 W_w54
          replace h_q9 := keep_wrote h_q9 W_w54 n_q52_q9
          replace h_q15 := keep_wrote h_q15 W_w54 n_q52_q15
          replace h_q38 := keep_wrote h_q38 W_w54 n_q52_q38
          replace h_q52 := W_w54.here
          replace o_os := own_wrote o_os W_w54 d_os_q52
          replace o_e := own_wrote o_e W_w54 d_e_q52
          replace o_g := own_wrote o_g W_w54 d_g_q52
          replace o_r37 := own_wrote o_r37 W_w54 d_r37_q52
          replace o_x46 := own_wrote o_x46 W_w54 d_x46_q52
          replace o_x50 := own_wrote o_x50 W_w54 d_x50_q52
          replace o_f50 := own_wrote o_f50 W_w54 d_f50_q52
          replace hB := below_wrote hB hB.size W_w54 g_q52.le
          clear W_w54
          refine q_val rfl rfl ?_
          refine g_assign rfl ((p37.ne rfl).trans s55) ?_
          intro a38 p38
          have s11 : a38.eval (.tmp 11) = .slice G50 ((frs (P1 ++ I46) c0 i j).length) g50 := p38.at hs (by decide)
          replace hs := p38.st hs
          refine wpList_nil ?_
          replace s0 : a38.eval (.tmp 0) = .slice A n c := ((p38.ne rfl).trans ((p37.ne rfl).trans ((p36.ne rfl).trans ((p35.ne rfl).trans ((p34.ne rfl).trans ((p33.ne rfl).trans (p32.ne rfl))))))).trans s0
          replace s2 : a38.eval (.tmp 2) = .bool false := ((p38.ne rfl).trans ((p37.ne rfl).trans ((p36.ne rfl).trans ((p35.ne rfl).trans ((p34.ne rfl).trans ((p33.ne rfl).trans (p32.ne rfl))))))).trans s2
          replace s3 : a38.eval (.tmp 3) = .slice O os.length co := ((p38.ne rfl).trans ((p37.ne rfl).trans ((p36.ne rfl).trans ((p35.ne rfl).trans ((p34.ne rfl).trans ((p33.ne rfl).trans (p32.ne rfl))))))).trans s3
          replace s4 : a38.eval (.tmp 4) = .pointer (some ⟨q9, 0, none⟩) := ((p38.ne rfl).trans ((p37.ne rfl).trans ((p36.ne rfl).trans ((p35.ne rfl).trans ((p34.ne rfl).trans ((p33.ne rfl).trans (p32.ne rfl))))))).trans s4
          replace s5 : a38.eval (.tmp 5) = .pointer (some ⟨q15, 0, none⟩) := ((p38.ne rfl).trans ((p37.ne rfl).trans ((p36.ne rfl).trans ((p35.ne rfl).trans ((p34.ne rfl).trans ((p33.ne rfl).trans (p32.ne rfl))))))).trans s5
          replace s6 : a38.eval (.tmp 6) = .slice G ng cg := ((p38.ne rfl).trans ((p37.ne rfl).trans ((p36.ne rfl).trans ((p35.ne rfl).trans ((p34.ne rfl).trans ((p33.ne rfl).trans (p32.ne rfl))))))).trans s6
          replace s7 : a38.eval (.tmp 7) = .int .i64 ((k : Nat) : Int) := ((p38.ne rfl).trans ((p37.ne rfl).trans ((p36.ne rfl).trans ((p35.ne rfl).trans ((p34.ne rfl).trans ((p33.ne rfl).trans (p32.ne rfl))))))).trans s7
          replace s8 : a38.eval (.tmp 8) = .pointer (some ⟨q38, 0, none⟩) := ((p38.ne rfl).trans ((p37.ne rfl).trans ((p36.ne rfl).trans ((p35.ne rfl).trans ((p34.ne rfl).trans ((p33.ne rfl).trans (p32.ne rfl))))))).trans s8
          replace s9 : a38.eval (.tmp 9) = .bool true := ((p38.ne rfl).trans ((p37.ne rfl).trans ((p36.ne rfl).trans ((p35.ne rfl).trans ((p34.ne rfl).trans ((p33.ne rfl).trans (p32.ne rfl))))))).trans s9
          replace s29 : a38.eval (.tmp 29) = .bool true := ((p38.ne rfl).trans ((p37.ne rfl).trans ((p36.ne rfl).trans ((p35.ne rfl).trans ((p34.ne rfl).trans ((p33.ne rfl).trans (p32.ne rfl))))))).trans s29
          replace s42 : a38.eval (.tmp 42) = .bool false := ((p38.ne rfl).trans ((p37.ne rfl).trans ((p36.ne rfl).trans ((p35.ne rfl).trans ((p34.ne rfl).trans ((p33.ne rfl).trans (p32.ne rfl))))))).trans s42
          replace s48 : a38.eval (.tmp 48) = .bool true := ((p38.ne rfl).trans ((p37.ne rfl).trans ((p36.ne rfl).trans ((p35.ne rfl).trans ((p34.ne rfl).trans ((p33.ne rfl).trans (p32.ne rfl))))))).trans s48
          replace s10 : a38.eval (.tmp 10) = .pointer (some ⟨q52, 0, none⟩) := (p38.ne rfl).trans s10
          refine hK49 _ _ ?_
          clear hK49
          refine wp_seq_k fun K55 hK55 => ?_
          refine wp_region_lit ?_
          refine q_val rfl rfl ?_
          refine g_loadB rfl s10 Try.isAgg28 Try.sizeOf28 rfl h_q52 ?_
          intro a39 p39
          have s56 : a39.eval (.tmp 56) = .agg #[.int .i64 0, .int .i64 ((c0 + ((i + j : Nat) : Int)) % 256), .string ⟨((flatP (P1 ++ I46)).drop (24 * (i + j))).toArray⟩, .slice A50 ((dsAt (P1 ++ I46) (24 * (i + j))).length) c50] := p39.at hs (by decide)
          replace hs := p39.st hs
          refine q_eff rfl rfl ?_
          refine g_storeB rfl ((p39.ne rfl).trans s4) s56 Try.sizeOf28 rfl rfl h_q9 rfl ?_
          intro w56 W_w56
          replace h_q9 := W_w56.here
          replace h_q15 := keep_wrote h_q15 W_w56 n_q9_q15
          replace h_q38 := keep_wrote h_q38 W_w56 n_q9_q38
          replace h_q52 := keep_wrote h_q52 W_w56 n_q9_q52
          replace o_os := own_wrote o_os W_w56 d_os_q9
          replace o_e := own_wrote o_e W_w56 d_e_q9
          replace o_g := own_wrote o_g W_w56 d_g_q9
          replace o_r37 := own_wrote o_r37 W_w56 d_r37_q9
          replace o_x46 := own_wrote o_x46 W_w56 d_x46_q9
          replace o_x50 := own_wrote o_x50 W_w56 d_x50_q9
          replace o_f50 := own_wrote o_f50 W_w56 d_f50_q9
          replace hB := below_wrote hB hB.size W_w56 g_q9.le
          clear W_w56
          refine wpList_nil ?_
          replace s0 : a39.eval (.tmp 0) = .slice A n c := (p39.ne rfl).trans s0
          replace s2 : a39.eval (.tmp 2) = .bool false := (p39.ne rfl).trans s2
          replace s3 : a39.eval (.tmp 3) = .slice O os.length co := (p39.ne rfl).trans s3
          replace s4 : a39.eval (.tmp 4) = .pointer (some ⟨q9, 0, none⟩) := (p39.ne rfl).trans s4
          replace s5 : a39.eval (.tmp 5) = .pointer (some ⟨q15, 0, none⟩) := (p39.ne rfl).trans s5
          replace s6 : a39.eval (.tmp 6) = .slice G ng cg := (p39.ne rfl).trans s6
          replace s7 : a39.eval (.tmp 7) = .int .i64 ((k : Nat) : Int) := (p39.ne rfl).trans s7
          replace s8 : a39.eval (.tmp 8) = .pointer (some ⟨q38, 0, none⟩) := (p39.ne rfl).trans s8
          replace s9 : a39.eval (.tmp 9) = .bool true := (p39.ne rfl).trans s9
          replace s29 : a39.eval (.tmp 29) = .bool true := (p39.ne rfl).trans s29
          replace s42 : a39.eval (.tmp 42) = .bool false := (p39.ne rfl).trans s42
          replace s48 : a39.eval (.tmp 48) = .bool true := (p39.ne rfl).trans s48
          replace s10 : a39.eval (.tmp 10) = .pointer (some ⟨q52, 0, none⟩) := (p39.ne rfl).trans s10
          replace s11 : a39.eval (.tmp 11) = .slice G50 ((frs (P1 ++ I46) c0 i j).length) g50 := (p39.ne rfl).trans s11
          refine hK55 _ _ ?_
          clear hK55
          refine wp_seq_k fun K57 hK57 => ?_
          refine wp_region_lit ?_
          refine q_val rfl rfl ?_
          refine g_loadB rfl s5 Try.isAgg42 Try.sizeOf42 rfl h_q15 ?_
          intro a40 p40
          have s58 : a40.eval (.tmp 58) = .agg #[.int .i64 u.ch, .int .i64 u.nx, .bool u.sy, .string ⟨(u.rest).toArray⟩, .int .i64 u.lost] := p40.at hs (by decide)
          replace hs := p40.st hs
          refine q_val rfl rfl ?_
          refine g_move rfl ((p40.ne rfl).trans s11) ?_
          intro a41 p41
          have s59 : a41.eval (.tmp 59) = .slice G50 ((frs (P1 ++ I46) c0 i j).length) g50 := p41.at hs (by decide)
          replace hs := p41.st hs
          refine q_val rfl rfl ?_
          refine g_call rfl rfl Try.call13 (arr2 ((p41.ne rfl).trans s58) s59) ?_
          refine (pushFrames_any (u := u) _ _ _ (frs (P1 ++ I46) c0 i j) _ hps1 rfl (by omega) (Rd.of_own o_f50)).mono ?_
          rintro e w59 ⟨A58, c58, rfl, o_x58, hb58⟩
          refine ⟨_, rfl, ?_⟩
          have d_x58_q9 := own_ne_box o_x58 (lt_of_block h_q9)
          have d_x58_q15 := own_ne_box o_x58 (lt_of_block h_q15)
          have d_x58_q38 := own_ne_box o_x58 (lt_of_block h_q38)
          have d_x58_q52 := own_ne_box o_x58 (lt_of_block h_q52)
          have m_os_x58 := own_ne_row o_os o_x58 (Nat.le_refl _)
          have m_x58_os := ne_row_symm m_os_x58
          have m_e_x58 := own_ne_row o_e o_x58 (Nat.le_refl _)
          have m_x58_e := ne_row_symm m_e_x58
          have m_g_x58 := own_ne_row o_g o_x58 (Nat.le_refl _)
          have m_x58_g := ne_row_symm m_g_x58
          have m_r37_x58 := own_ne_row o_r37 o_x58 (Nat.le_refl _)
          have m_x58_r37 := ne_row_symm m_r37_x58
          have m_x46_x58 := own_ne_row o_x46 o_x58 (Nat.le_refl _)
          have m_x58_x46 := ne_row_symm m_x46_x58
          have m_x50_x58 := own_ne_row o_x50 o_x58 (Nat.le_refl _)
          have m_x58_x50 := ne_row_symm m_x50_x58
          have m_f50_x58 := own_ne_row o_f50 o_x58 (Nat.le_refl _)
          have m_x58_f50 := ne_row_symm m_f50_x58
          have g_x58 : ∀ b, (A58 : Option Addr).map (·.block) = some b → w.heap.size ≤ b := fun b h => Nat.le_trans hB.size (own_row o_x58 b h).1
          replace o_x58 := own_base (base := w.heap.size) o_x58 hB.size
          replace h_q9 := keep_below h_q9 hb58
          replace h_q15 := keep_below h_q15 hb58
          replace h_q38 := keep_below h_q38 hb58
          replace h_q52 := keep_below h_q52 hb58
          replace o_os := own_below o_os hb58
          replace o_e := own_below o_e hb58
          replace o_g := own_below o_g hb58
          replace o_r37 := own_below o_r37 hb58
          replace o_x46 := own_below o_x46 hb58
          replace o_x50 := own_below o_x50 hb58
          replace o_f50 := own_below o_f50 hb58
          replace hB := hB.trans (hb58.mono hB.size)
          clear hb58
          intro a42 p42
          have s60 : a42.eval (.tmp 60) = .tuple #[.agg #[.int .i64 ((pushUs u (frs (P1 ++ I46) c0 i j)).ch), .int .i64 ((pushUs u (frs (P1 ++ I46) c0 i j)).nx), .bool ((pushUs u (frs (P1 ++ I46) c0 i j)).sy), .string ⟨((pushUs u (frs (P1 ++ I46) c0 i j)).rest).toArray⟩, .int .i64 ((pushUs u (frs (P1 ++ I46) c0 i j)).lost)], .slice A58 ((pushLs u (frs (P1 ++ I46) c0 i j)).length) c58] := p42.at hs (by decide)
          replace hs := p42.st hs
          refine q_val rfl rfl ?_
          refine g_move rfl s60 ?_
          intro a43 p43
          have s57 : a43.eval (.tmp 57) = .tuple #[.agg #[.int .i64 ((pushUs u (frs (P1 ++ I46) c0 i j)).ch), .int .i64 ((pushUs u (frs (P1 ++ I46) c0 i j)).nx), .bool ((pushUs u (frs (P1 ++ I46) c0 i j)).sy), .string ⟨((pushUs u (frs (P1 ++ I46) c0 i j)).rest).toArray⟩, .int .i64 ((pushUs u (frs (P1 ++ I46) c0 i j)).lost)], .slice A58 ((pushLs u (frs (P1 ++ I46) c0 i j)).length) c58] := p43.at hs (by decide)
          replace hs := p43.st hs
          refine q_val rfl rfl ?_
          refine g_extract rfl s57 rfl ?_
          intro a44 p44
          have s61 : a44.eval (.tmp 61) = .agg #[.int .i64 ((pushUs u (frs (P1 ++ I46) c0 i j)).ch), .int .i64 ((pushUs u (frs (P1 ++ I46) c0 i j)).nx), .bool ((pushUs u (frs (P1 ++ I46) c0 i j)).sy), .string ⟨((pushUs u (frs (P1 ++ I46) c0 i j)).rest).toArray⟩, .int .i64 ((pushUs u (frs (P1 ++ I46) c0 i j)).lost)] := p44.at hs (by decide)
          replace hs := p44.st hs
          refine q_val rfl rfl ?_
          refine g_extract rfl ((p44.ne rfl).trans s57) rfl ?_
          intro a45 p45
          have s62 : a45.eval (.tmp 62) = .slice A58 ((pushLs u (frs (P1 ++ I46) c0 i j)).length) c58 := p45.at hs (by decide)
          replace hs := p45.st hs
          refine q_val rfl rfl ?_
          refine g_alloc rfl Try.zeroValue42 rfl ?_
          intro q60 w61 N_q60
          have n_q9_q60 := N_q60.ne ⟨lt_of_block h_q9⟩
          have n_q60_q9 := n_q9_q60.symm
          have n_q15_q60 := N_q60.ne ⟨lt_of_block h_q15⟩
          have n_q60_q15 := n_q15_q60.symm
          have n_q38_q60 := N_q60.ne ⟨lt_of_block h_q38⟩
          have n_q60_q38 := n_q38_q60.symm
          have n_q52_q60 := N_q60.ne ⟨lt_of_block h_q52⟩
          have n_q60_q52 := n_q52_q60.symm
          have d_os_q60 := own_ne_new o_os N_q60
          have d_e_q60 := own_ne_new o_e N_q60
          have d_g_q60 := own_ne_new o_g N_q60
          have d_r37_q60 := own_ne_new o_r37 N_q60
          have d_x46_q60 := own_ne_new o_x46 N_q60
          have d_x50_q60 := own_ne_new o_x50 N_q60
          have d_f50_q60 := own_ne_new o_f50 N_q60
          have d_x58_q60 := own_ne_new o_x58 N_q60
          have g_q60 : GeB w.heap.size q60 := ⟨Nat.le_trans hB.size N_q60.lo⟩
          replace h_q9 := keep_below h_q9 N_q60.below
          replace h_q15 := keep_below h_q15 N_q60.below
          replace h_q38 := keep_below h_q38 N_q60.below
          replace h_q52 := keep_below h_q52 N_q60.below
          replace o_os := own_below o_os N_q60.below
          replace o_e := own_below o_e N_q60.below
          replace o_g := own_below o_g N_q60.below
          replace o_r37 := own_below o_r37 N_q60.below
          replace o_x46 := own_below o_x46 N_q60.below
          replace o_x50 := own_below o_x50 N_q60.below
          replace o_f50 := own_below o_f50 N_q60.below
          replace o_x58 := own_below o_x58 N_q60.below
          replace hB := below_new hB hB.size N_q60
          have h_q60 := N_q60.here
          clear N_q60
          intro a46 p46
          have s12 : a46.eval (.tmp 12) = .pointer (some ⟨q60, 0, none⟩) := p46.at hs (by decide)
          replace hs := p46.st hs
          refine q_eff rfl rfl ?_
          refine g_storeB rfl s12 (((p46.ne rfl).trans (p45.ne rfl)).trans s61) Try.sizeOf42 rfl rfl h_q60 rfl ?_
          intro w62 W_w62
          replace h_q9 := keep_wrote h_q9 W_w62 n_q60_q9
          replace h_q15 := keep_wrote h_q15 W_w62 n_q60_q15
          replace h_q38 := keep_wrote h_q38 W_w62 n_q60_q38
          replace h_q52 := keep_wrote h_q52 W_w62 n_q60_q52
          replace h_q60 := W_w62.here
          replace o_os := own_wrote o_os W_w62 d_os_q60
          replace o_e := own_wrote o_e W_w62 d_e_q60
          replace o_g := own_wrote o_g W_w62 d_g_q60
          replace o_r37 := own_wrote o_r37 W_w62 d_r37_q60
          replace o_x46 := own_wrote o_x46 W_w62 d_x46_q60
          replace o_x50 := own_wrote o_x50 W_w62 d_x50_q60
          replace o_f50 := own_wrote o_f50 W_w62 d_f50_q60
          replace o_x58 := own_wrote o_x58 W_w62 d_x58_q60
          replace hB := below_wrote hB hB.size W_w62 g_q60.le
          clear W_w62
          refine q_val rfl rfl ?_
          refine g_assign rfl ((p46.ne rfl).trans s62) ?_
          intro a47 p47
          have s13 : a47.eval (.tmp 13) = .slice A58 ((pushLs u (frs (P1 ++ I46) c0 i j)).length) c58 := p47.at hs (by decide)
          replace hs := p47.st hs
          refine wpList_nil ?_
          replace s0 : a47.eval (.tmp 0) = .slice A n c := ((p47.ne rfl).trans ((p46.ne rfl).trans ((p45.ne rfl).trans ((p44.ne rfl).trans ((p43.ne rfl).trans ((p42.ne rfl).trans ((p41.ne rfl).trans (p40.ne rfl)))))))).trans s0
          replace s2 : a47.eval (.tmp 2) = .bool false := ((p47.ne rfl).trans ((p46.ne rfl).trans ((p45.ne rfl).trans ((p44.ne rfl).trans ((p43.ne rfl).trans ((p42.ne rfl).trans ((p41.ne rfl).trans (p40.ne rfl)))))))).trans s2
          replace s3 : a47.eval (.tmp 3) = .slice O os.length co := ((p47.ne rfl).trans ((p46.ne rfl).trans ((p45.ne rfl).trans ((p44.ne rfl).trans ((p43.ne rfl).trans ((p42.ne rfl).trans ((p41.ne rfl).trans (p40.ne rfl)))))))).trans s3
          replace s4 : a47.eval (.tmp 4) = .pointer (some ⟨q9, 0, none⟩) := ((p47.ne rfl).trans ((p46.ne rfl).trans ((p45.ne rfl).trans ((p44.ne rfl).trans ((p43.ne rfl).trans ((p42.ne rfl).trans ((p41.ne rfl).trans (p40.ne rfl)))))))).trans s4
          replace s5 : a47.eval (.tmp 5) = .pointer (some ⟨q15, 0, none⟩) := ((p47.ne rfl).trans ((p46.ne rfl).trans ((p45.ne rfl).trans ((p44.ne rfl).trans ((p43.ne rfl).trans ((p42.ne rfl).trans ((p41.ne rfl).trans (p40.ne rfl)))))))).trans s5
          replace s6 : a47.eval (.tmp 6) = .slice G ng cg := ((p47.ne rfl).trans ((p46.ne rfl).trans ((p45.ne rfl).trans ((p44.ne rfl).trans ((p43.ne rfl).trans ((p42.ne rfl).trans ((p41.ne rfl).trans (p40.ne rfl)))))))).trans s6
          replace s7 : a47.eval (.tmp 7) = .int .i64 ((k : Nat) : Int) := ((p47.ne rfl).trans ((p46.ne rfl).trans ((p45.ne rfl).trans ((p44.ne rfl).trans ((p43.ne rfl).trans ((p42.ne rfl).trans ((p41.ne rfl).trans (p40.ne rfl)))))))).trans s7
          replace s8 : a47.eval (.tmp 8) = .pointer (some ⟨q38, 0, none⟩) := ((p47.ne rfl).trans ((p46.ne rfl).trans ((p45.ne rfl).trans ((p44.ne rfl).trans ((p43.ne rfl).trans ((p42.ne rfl).trans ((p41.ne rfl).trans (p40.ne rfl)))))))).trans s8
          replace s9 : a47.eval (.tmp 9) = .bool true := ((p47.ne rfl).trans ((p46.ne rfl).trans ((p45.ne rfl).trans ((p44.ne rfl).trans ((p43.ne rfl).trans ((p42.ne rfl).trans ((p41.ne rfl).trans (p40.ne rfl)))))))).trans s9
          replace s29 : a47.eval (.tmp 29) = .bool true := ((p47.ne rfl).trans ((p46.ne rfl).trans ((p45.ne rfl).trans ((p44.ne rfl).trans ((p43.ne rfl).trans ((p42.ne rfl).trans ((p41.ne rfl).trans (p40.ne rfl)))))))).trans s29
          replace s42 : a47.eval (.tmp 42) = .bool false := ((p47.ne rfl).trans ((p46.ne rfl).trans ((p45.ne rfl).trans ((p44.ne rfl).trans ((p43.ne rfl).trans ((p42.ne rfl).trans ((p41.ne rfl).trans (p40.ne rfl)))))))).trans s42
          replace s48 : a47.eval (.tmp 48) = .bool true := ((p47.ne rfl).trans ((p46.ne rfl).trans ((p45.ne rfl).trans ((p44.ne rfl).trans ((p43.ne rfl).trans ((p42.ne rfl).trans ((p41.ne rfl).trans (p40.ne rfl)))))))).trans s48
          replace s10 : a47.eval (.tmp 10) = .pointer (some ⟨q52, 0, none⟩) := ((p47.ne rfl).trans ((p46.ne rfl).trans ((p45.ne rfl).trans ((p44.ne rfl).trans ((p43.ne rfl).trans ((p42.ne rfl).trans ((p41.ne rfl).trans (p40.ne rfl)))))))).trans s10
          replace s11 : a47.eval (.tmp 11) = .slice G50 ((frs (P1 ++ I46) c0 i j).length) g50 := ((p47.ne rfl).trans ((p46.ne rfl).trans ((p45.ne rfl).trans ((p44.ne rfl).trans ((p43.ne rfl).trans ((p42.ne rfl).trans ((p41.ne rfl).trans (p40.ne rfl)))))))).trans s11
          replace s12 : a47.eval (.tmp 12) = .pointer (some ⟨q60, 0, none⟩) := (p47.ne rfl).trans s12
          refine hK57 _ _ ?_
          clear hK57
          refine wp_seq_k fun K63 hK63 => ?_
          refine wp_region_lit ?_
          refine q_val rfl rfl ?_
          refine g_loadB rfl s12 Try.isAgg42 Try.sizeOf42 rfl h_q60 ?_
          intro a48 p48
          have s63 : a48.eval (.tmp 63) = .agg #[.int .i64 ((pushUs u (frs (P1 ++ I46) c0 i j)).ch), .int .i64 ((pushUs u (frs (P1 ++ I46) c0 i j)).nx), .bool ((pushUs u (frs (P1 ++ I46) c0 i j)).sy), .string ⟨((pushUs u (frs (P1 ++ I46) c0 i j)).rest).toArray⟩, .int .i64 ((pushUs u (frs (P1 ++ I46) c0 i j)).lost)] := p48.at hs (by decide)
          replace hs := p48.st hs
          refine q_eff rfl rfl ?_
          refine g_storeB rfl ((p48.ne rfl).trans s5) s63 Try.sizeOf42 rfl rfl h_q15 rfl ?_
          intro w64 W_w64
          replace h_q9 := keep_wrote h_q9 W_w64 n_q15_q9
          replace h_q15 := W_w64.here
          replace h_q38 := keep_wrote h_q38 W_w64 n_q15_q38
          replace h_q52 := keep_wrote h_q52 W_w64 n_q15_q52
          replace h_q60 := keep_wrote h_q60 W_w64 n_q15_q60
          replace o_os := own_wrote o_os W_w64 d_os_q15
          replace o_e := own_wrote o_e W_w64 d_e_q15
          replace o_g := own_wrote o_g W_w64 d_g_q15
          replace o_r37 := own_wrote o_r37 W_w64 d_r37_q15
          replace o_x46 := own_wrote o_x46 W_w64 d_x46_q15
          replace o_x50 := own_wrote o_x50 W_w64 d_x50_q15
          replace o_f50 := own_wrote o_f50 W_w64 d_f50_q15
          replace o_x58 := own_wrote o_x58 W_w64 d_x58_q15
          replace hB := below_wrote hB hB.size W_w64 g_q15.le
          clear W_w64
          refine wpList_nil ?_
          replace s0 : a48.eval (.tmp 0) = .slice A n c := (p48.ne rfl).trans s0
          replace s2 : a48.eval (.tmp 2) = .bool false := (p48.ne rfl).trans s2
          replace s3 : a48.eval (.tmp 3) = .slice O os.length co := (p48.ne rfl).trans s3
          replace s4 : a48.eval (.tmp 4) = .pointer (some ⟨q9, 0, none⟩) := (p48.ne rfl).trans s4
          replace s5 : a48.eval (.tmp 5) = .pointer (some ⟨q15, 0, none⟩) := (p48.ne rfl).trans s5
          replace s6 : a48.eval (.tmp 6) = .slice G ng cg := (p48.ne rfl).trans s6
          replace s7 : a48.eval (.tmp 7) = .int .i64 ((k : Nat) : Int) := (p48.ne rfl).trans s7
          replace s8 : a48.eval (.tmp 8) = .pointer (some ⟨q38, 0, none⟩) := (p48.ne rfl).trans s8
          replace s9 : a48.eval (.tmp 9) = .bool true := (p48.ne rfl).trans s9
          replace s29 : a48.eval (.tmp 29) = .bool true := (p48.ne rfl).trans s29
          replace s42 : a48.eval (.tmp 42) = .bool false := (p48.ne rfl).trans s42
          replace s48 : a48.eval (.tmp 48) = .bool true := (p48.ne rfl).trans s48
          replace s10 : a48.eval (.tmp 10) = .pointer (some ⟨q52, 0, none⟩) := (p48.ne rfl).trans s10
          replace s11 : a48.eval (.tmp 11) = .slice G50 ((frs (P1 ++ I46) c0 i j).length) g50 := (p48.ne rfl).trans s11
          replace s12 : a48.eval (.tmp 12) = .pointer (some ⟨q60, 0, none⟩) := (p48.ne rfl).trans s12
          replace s13 : a48.eval (.tmp 13) = .slice A58 ((pushLs u (frs (P1 ++ I46) c0 i j)).length) c58 := (p48.ne rfl).trans s13
          refine hK63 _ _ ?_
          clear hK63
          refine wp_region_lit ?_
          refine q_val rfl rfl ?_
          refine g_move rfl s6 ?_
          intro a49 p49
          have s64 : a49.eval (.tmp 64) = .slice G ng cg := p49.at hs (by decide)
          replace hs := p49.st hs
          refine q_val rfl rfl ?_
          refine g_move rfl ((p49.ne rfl).trans s13) ?_
          intro a50 p50
          have s65 : a50.eval (.tmp 65) = .slice A58 ((pushLs u (frs (P1 ++ I46) c0 i j)).length) c58 := p50.at hs (by decide)
          replace hs := p50.st hs
          refine q_val rfl rfl ?_
          refine g_append (n' := ng + ((pushLs u (frs (P1 ++ I46) c0 i j)).length)) (ys := (got ++ (pushLs u (frs (P1 ++ I46) c0 i j))).flatMap cPacket) w.heap.size (.agg #[.int .i64 0, .int .i64 0, .string ⟨#[]⟩]) 3 32 rfl ((p50.ne rfl).trans s64) s65 Try.underlying24 infoPacket rfl (by decide) o_g (own_nil o_x58) (Rd.of_own o_x58) (flatPacket_one _) (by omega) hB.size (by decide) (by omega) (by first | rfl | simp [List.flatMap_append] | (simp [List.flatMap_append, cPacket]; done)) ?_
          intro A_r65 c_r65 w66 P_r65
          have d_r65_q9 := P_r65.ne d_g_q9 (lt_of_block h_q9)
          have d_r65_q15 := P_r65.ne d_g_q15 (lt_of_block h_q15)
          have d_r65_q38 := P_r65.ne d_g_q38 (lt_of_block h_q38)
          have d_r65_q52 := P_r65.ne d_g_q52 (lt_of_block h_q52)
          have d_r65_q60 := P_r65.ne d_g_q60 (lt_of_block h_q60)
          have m_os_r65 := P_r65.row m_os_g o_os
          have m_r65_os := ne_row_symm m_os_r65
          have m_e_r65 := P_r65.row m_e_g o_e
          have m_r65_e := ne_row_symm m_e_r65
          have m_r37_r65 := P_r65.row m_r37_g o_r37
          have m_r65_r37 := ne_row_symm m_r37_r65
          have m_x46_r65 := P_r65.row m_x46_g o_x46
          have m_r65_x46 := ne_row_symm m_x46_r65
          have m_x50_r65 := P_r65.row m_x50_g o_x50
          have m_r65_x50 := ne_row_symm m_x50_r65
          have m_f50_r65 := P_r65.row m_f50_g o_f50
          have m_r65_f50 := ne_row_symm m_f50_r65
          have m_x58_r65 := P_r65.row m_x58_g o_x58
          have m_r65_x58 := ne_row_symm m_x58_r65
          have g_r65 := P_r65.ge g_g hB.size
          replace h_q9 := keep_grown h_q9 P_r65.grown d_g_q9
          replace h_q15 := keep_grown h_q15 P_r65.grown d_g_q15
          replace h_q38 := keep_grown h_q38 P_r65.grown d_g_q38
          replace h_q52 := keep_grown h_q52 P_r65.grown d_g_q52
          replace h_q60 := keep_grown h_q60 P_r65.grown d_g_q60
          replace o_os := own_grown o_os P_r65.grown m_os_g
          replace o_e := own_grown o_e P_r65.grown m_e_g
          replace o_r37 := own_grown o_r37 P_r65.grown m_r37_g
          replace o_x46 := own_grown o_x46 P_r65.grown m_x46_g
          replace o_x50 := own_grown o_x50 P_r65.grown m_x50_g
          replace o_f50 := own_grown o_f50 P_r65.grown m_f50_g
          replace o_x58 := own_grown o_x58 P_r65.grown m_x58_g
          replace hB := below_grown hB hB.size P_r65.grown g_g
          have o_r65 := P_r65.own
          clear P_r65
          intro a51 p51
          have s66 : a51.eval (.tmp 66) = .slice A_r65 (ng + ((pushLs u (frs (P1 ++ I46) c0 i j)).length)) c_r65 := p51.at hs (by decide)
          replace hs := p51.st hs
          refine q_val rfl rfl ?_
          refine g_assign rfl s66 ?_
          intro a52 p52
          have s6 : a52.eval (.tmp 6) = .slice A_r65 (ng + ((pushLs u (frs (P1 ++ I46) c0 i j)).length)) c_r65 := p52.at hs (by decide)
          replace hs := p52.st hs
          refine wpList_nil ?_
          replace s0 : a52.eval (.tmp 0) = .slice A n c := ((p52.ne rfl).trans ((p51.ne rfl).trans ((p50.ne rfl).trans (p49.ne rfl)))).trans s0
          replace s2 : a52.eval (.tmp 2) = .bool false := ((p52.ne rfl).trans ((p51.ne rfl).trans ((p50.ne rfl).trans (p49.ne rfl)))).trans s2
          replace s3 : a52.eval (.tmp 3) = .slice O os.length co := ((p52.ne rfl).trans ((p51.ne rfl).trans ((p50.ne rfl).trans (p49.ne rfl)))).trans s3
          replace s4 : a52.eval (.tmp 4) = .pointer (some ⟨q9, 0, none⟩) := ((p52.ne rfl).trans ((p51.ne rfl).trans ((p50.ne rfl).trans (p49.ne rfl)))).trans s4
          replace s5 : a52.eval (.tmp 5) = .pointer (some ⟨q15, 0, none⟩) := ((p52.ne rfl).trans ((p51.ne rfl).trans ((p50.ne rfl).trans (p49.ne rfl)))).trans s5
          replace s7 : a52.eval (.tmp 7) = .int .i64 ((k : Nat) : Int) := ((p52.ne rfl).trans ((p51.ne rfl).trans ((p50.ne rfl).trans (p49.ne rfl)))).trans s7
          replace s8 : a52.eval (.tmp 8) = .pointer (some ⟨q38, 0, none⟩) := ((p52.ne rfl).trans ((p51.ne rfl).trans ((p50.ne rfl).trans (p49.ne rfl)))).trans s8
          replace s9 : a52.eval (.tmp 9) = .bool true := ((p52.ne rfl).trans ((p51.ne rfl).trans ((p50.ne rfl).trans (p49.ne rfl)))).trans s9
          replace s29 : a52.eval (.tmp 29) = .bool true := ((p52.ne rfl).trans ((p51.ne rfl).trans ((p50.ne rfl).trans (p49.ne rfl)))).trans s29
          replace s42 : a52.eval (.tmp 42) = .bool false := ((p52.ne rfl).trans ((p51.ne rfl).trans ((p50.ne rfl).trans (p49.ne rfl)))).trans s42
          replace s48 : a52.eval (.tmp 48) = .bool true := ((p52.ne rfl).trans ((p51.ne rfl).trans ((p50.ne rfl).trans (p49.ne rfl)))).trans s48
          replace s10 : a52.eval (.tmp 10) = .pointer (some ⟨q52, 0, none⟩) := ((p52.ne rfl).trans ((p51.ne rfl).trans ((p50.ne rfl).trans (p49.ne rfl)))).trans s10
          replace s11 : a52.eval (.tmp 11) = .slice G50 ((frs (P1 ++ I46) c0 i j).length) g50 := ((p52.ne rfl).trans ((p51.ne rfl).trans ((p50.ne rfl).trans (p49.ne rfl)))).trans s11
          replace s12 : a52.eval (.tmp 12) = .pointer (some ⟨q60, 0, none⟩) := ((p52.ne rfl).trans ((p51.ne rfl).trans ((p50.ne rfl).trans (p49.ne rfl)))).trans s12
          replace s13 : a52.eval (.tmp 13) = .slice A58 ((pushLs u (frs (P1 ++ I46) c0 i j)).length) c58 := ((p52.ne rfl).trans ((p51.ne rfl).trans ((p50.ne rfl).trans (p49.ne rfl)))).trans s13
          refine hK29 _ _ ?_
          clear hK29
          refine wp_region_lit ?_
          refine q_val rfl rfl ?_
          refine g_move rfl s7 ?_
          intro a53 p53
          have s30 : a53.eval (.tmp 30) = .int .i64 ((k : Nat) : Int) := p53.at hs (by decide)
          replace hs := p53.st hs
          refine q_val rfl rfl ?_
          refine g_add (r := ((k + 1 : Nat) : Int)) rfl s30 rfl (by omega) (by omega) ?_
          intro a54 p54
          have s31 : a54.eval (.tmp 31) = .int .i64 ((k + 1 : Nat) : Int) := p54.at hs (by decide)
          replace hs := p54.st hs
          refine q_val rfl rfl ?_
          refine g_assign rfl s31 ?_
          intro a55 p55
          have s7 : a55.eval (.tmp 7) = .int .i64 ((k + 1 : Nat) : Int) := p55.at hs (by decide)
          replace hs := p55.st hs
          refine wpList_nil ?_
          replace s0 : a55.eval (.tmp 0) = .slice A n c := ((p55.ne rfl).trans ((p54.ne rfl).trans (p53.ne rfl))).trans s0
          replace s2 : a55.eval (.tmp 2) = .bool false := ((p55.ne rfl).trans ((p54.ne rfl).trans (p53.ne rfl))).trans s2
          replace s3 : a55.eval (.tmp 3) = .slice O os.length co := ((p55.ne rfl).trans ((p54.ne rfl).trans (p53.ne rfl))).trans s3
          replace s4 : a55.eval (.tmp 4) = .pointer (some ⟨q9, 0, none⟩) := ((p55.ne rfl).trans ((p54.ne rfl).trans (p53.ne rfl))).trans s4
          replace s5 : a55.eval (.tmp 5) = .pointer (some ⟨q15, 0, none⟩) := ((p55.ne rfl).trans ((p54.ne rfl).trans (p53.ne rfl))).trans s5
          replace s6 : a55.eval (.tmp 6) = .slice A_r65 (ng + ((pushLs u (frs (P1 ++ I46) c0 i j)).length)) c_r65 := ((p55.ne rfl).trans ((p54.ne rfl).trans (p53.ne rfl))).trans s6
          replace s8 : a55.eval (.tmp 8) = .pointer (some ⟨q38, 0, none⟩) := ((p55.ne rfl).trans ((p54.ne rfl).trans (p53.ne rfl))).trans s8
          replace s9 : a55.eval (.tmp 9) = .bool true := ((p55.ne rfl).trans ((p54.ne rfl).trans (p53.ne rfl))).trans s9
          replace s29 : a55.eval (.tmp 29) = .bool true := ((p55.ne rfl).trans ((p54.ne rfl).trans (p53.ne rfl))).trans s29
          replace s42 : a55.eval (.tmp 42) = .bool false := ((p55.ne rfl).trans ((p54.ne rfl).trans (p53.ne rfl))).trans s42
          replace s48 : a55.eval (.tmp 48) = .bool true := ((p55.ne rfl).trans ((p54.ne rfl).trans (p53.ne rfl))).trans s48
          replace s10 : a55.eval (.tmp 10) = .pointer (some ⟨q52, 0, none⟩) := ((p55.ne rfl).trans ((p54.ne rfl).trans (p53.ne rfl))).trans s10
          replace s11 : a55.eval (.tmp 11) = .slice G50 ((frs (P1 ++ I46) c0 i j).length) g50 := ((p55.ne rfl).trans ((p54.ne rfl).trans (p53.ne rfl))).trans s11
          replace s12 : a55.eval (.tmp 12) = .pointer (some ⟨q60, 0, none⟩) := ((p55.ne rfl).trans ((p54.ne rfl).trans (p53.ne rfl))).trans s12
          replace s13 : a55.eval (.tmp 13) = .slice A58 ((pushLs u (frs (P1 ++ I46) c0 i j)).length) c58 := ((p55.ne rfl).trans ((p54.ne rfl).trans (p53.ne rfl))).trans s13
          have o_e := o_x50
          have g_e := g_x50
          have d_e_q9 := d_x50_q9
          have d_e_q15 := d_x50_q15
          have m_os_e := m_os_x50
          have m_e_os := m_x50_os
          have m_g_e := m_r65_x50
          have m_e_g := m_x50_r65
          have o_g := o_r65
          have g_g := g_r65
          have d_g_q9 := d_r65_q9
          have d_g_q15 := d_r65_q15
          have m_os_g := m_os_r65
          have m_g_os := m_r65_os
          have m_e_g := m_x50_r65
          have m_g_e := m_r65_x50
          refine show _ ∧ _ from ⟨⟨k + 1, (P1 ++ I46), i + j, pushUs u (frs (P1 ++ I46) c0 i j), got ++ pushLs u (frs (P1 ++ I46) c0 i j), _, _, _, _, _, hs, s0, s2, s3, s4, s5, s6, s7, hB, h_q9, h_q15, o_os, o_e, o_g, d_e_q9, d_e_q15, m_os_e, m_e_os, m_g_e, g_e, d_g_q9, d_g_q15, m_os_g, m_g_os, m_e_g, g_g, hps2, (by rw [List.length_append, hng])⟩, ?_⟩
          show os.length - (intOf (a55.eval (.tmp 7))).toNat < os.length - (intOf (a16.eval (.tmp 7))).toNat
          rw [s7, mu25]
          simp only [intOf]
          omega
        · replace s48 := s48.trans (congrArg Value.bool (decide_eq_false hc45))
          replace s48 : a29.eval (.tmp 48) = .bool false := s48
          refine c_false s48 ?_
          refine wp_skip ?_
          refine hK43 _ _ ?_
          clear hK43
          refine wp_seq_k fun K67 hK67 => ?_
          obtain ⟨j, hj⟩ : ∃ j, j = (flatP P1).length / 24 - i := ⟨_, rfl⟩
          have hj1 : 24 * (i + j) ≤ (flatP P1).length := by omega
          have hj2 : (flatP P1).length < 24 * (i + j) + 24 := by omega
          clear hj
          have hPl : P1.length ≤ 1048576 := by omega
          obtain ⟨hps1, hps2⟩ := hI.step (P2 := P1) (I := []) hc0 hD hlt (by rw [hP1, List.append_nil]) (fun x hx => (List.not_mem_nil hx).elim) (by decide) hj1 hj2
          have hgl2 := hps2.uw.gl
          have hpl2 := hps2.pl
          rw [List.length_append] at hgl2
          have hfl := frs_len P1 c0 j i
          refine wp_region_lit ?_
          refine q_val rfl rfl ?_
          refine g_loadB rfl s8 Try.isAgg28 Try.sizeOf28 rfl h_q38 ?_
          intro a30 p30
          have s52 : a30.eval (.tmp 52) = .agg #[.int .i64 0, .int .i64 ((c0 + ((i : Nat) : Int)) % 256), .string ⟨((flatP P1).drop (24 * i)).toArray⟩, .slice A_r37 ((dsAt P1 (24 * i)).length) c_r37] := p30.at hs (by decide)
          replace hs := p30.st hs
          refine q_val rfl rfl ?_
          refine g_call rfl rfl Try.call10 (arr1 s52) ?_
          refine (takeFrames_at (P := P1) (c0 := c0) (i := i) (k := j) rfl hc0 hj1 hj2 (by omega) hPl rfl (own_nil o_r37) (Rd.of_own o_r37)).mono ?_
          rintro e w69 ⟨A68, c68, G68, g68, rfl, o_x68, o_f68, hb68⟩
          refine ⟨_, rfl, ?_⟩
          have m_x68_f68 := own_ne_type o_x68 o_f68 (by decide)
          have m_f68_x68 := ne_row_symm m_x68_f68
          have d_x68_q9 := own_ne_box o_x68 (lt_of_block h_q9)
          have d_x68_q15 := own_ne_box o_x68 (lt_of_block h_q15)
          have d_x68_q38 := own_ne_box o_x68 (lt_of_block h_q38)
          have m_os_x68 := own_ne_row o_os o_x68 (Nat.le_refl _)
          have m_x68_os := ne_row_symm m_os_x68
          have m_e_x68 := own_ne_row o_e o_x68 (Nat.le_refl _)
          have m_x68_e := ne_row_symm m_e_x68
          have m_g_x68 := own_ne_row o_g o_x68 (Nat.le_refl _)
          have m_x68_g := ne_row_symm m_g_x68
          have m_r37_x68 := own_ne_row o_r37 o_x68 (Nat.le_refl _)
          have m_x68_r37 := ne_row_symm m_r37_x68
          have g_x68 : ∀ b, (A68 : Option Addr).map (·.block) = some b → w.heap.size ≤ b := fun b h => Nat.le_trans hB.size (own_row o_x68 b h).1
          replace o_x68 := own_base (base := w.heap.size) o_x68 hB.size
          have d_f68_q9 := own_ne_box o_f68 (lt_of_block h_q9)
          have d_f68_q15 := own_ne_box o_f68 (lt_of_block h_q15)
          have d_f68_q38 := own_ne_box o_f68 (lt_of_block h_q38)
          have m_os_f68 := own_ne_row o_os o_f68 (Nat.le_refl _)
          have m_f68_os := ne_row_symm m_os_f68
          have m_e_f68 := own_ne_row o_e o_f68 (Nat.le_refl _)
          have m_f68_e := ne_row_symm m_e_f68
          have m_g_f68 := own_ne_row o_g o_f68 (Nat.le_refl _)
          have m_f68_g := ne_row_symm m_g_f68
          have m_r37_f68 := own_ne_row o_r37 o_f68 (Nat.le_refl _)
          have m_f68_r37 := ne_row_symm m_r37_f68
          have g_f68 : ∀ b, (G68 : Option Addr).map (·.block) = some b → w.heap.size ≤ b := fun b h => Nat.le_trans hB.size (own_row o_f68 b h).1
          replace o_f68 := own_base (base := w.heap.size) o_f68 hB.size
          replace h_q9 := keep_below h_q9 hb68
          replace h_q15 := keep_below h_q15 hb68
          replace h_q38 := keep_below h_q38 hb68
          replace o_os := own_below o_os hb68
          replace o_e := own_below o_e hb68
          replace o_g := own_below o_g hb68
          replace o_r37 := own_below o_r37 hb68
          replace hB := hB.trans (hb68.mono hB.size)
          clear hb68
          intro a31 p31
          have s53 : a31.eval (.tmp 53) = .tuple #[.agg #[.int .i64 0, .int .i64 ((c0 + ((i + j : Nat) : Int)) % 256), .string ⟨((flatP P1).drop (24 * (i + j))).toArray⟩, .slice A68 ((dsAt P1 (24 * (i + j))).length) c68], .slice G68 ((frs P1 c0 i j).length) g68] := p31.at hs (by decide)
          replace hs := p31.st hs
          refine q_val rfl rfl ?_
          refine g_move rfl s53 ?_
          intro a32 p32
          have s51 : a32.eval (.tmp 51) = .tuple #[.agg #[.int .i64 0, .int .i64 ((c0 + ((i + j : Nat) : Int)) % 256), .string ⟨((flatP P1).drop (24 * (i + j))).toArray⟩, .slice A68 ((dsAt P1 (24 * (i + j))).length) c68], .slice G68 ((frs P1 c0 i j).length) g68] := p32.at hs (by decide)
          replace hs := p32.st hs
          refine q_val rfl rfl ?_
          refine g_extract rfl s51 rfl ?_
          intro a33 p33
          have s54 : a33.eval (.tmp 54) = .agg #[.int .i64 0, .int .i64 ((c0 + ((i + j : Nat) : Int)) % 256), .string ⟨((flatP P1).drop (24 * (i + j))).toArray⟩, .slice A68 ((dsAt P1 (24 * (i + j))).length) c68] := p33.at hs (by decide)
          replace hs := p33.st hs
          refine q_val rfl rfl ?_
          refine g_extract rfl ((p33.ne rfl).trans s51) rfl ?_
          intro a34 p34
          have s55 : a34.eval (.tmp 55) = .slice G68 ((frs P1 c0 i j).length) g68 := p34.at hs (by decide)
          replace hs := p34.st hs
          refine q_val rfl rfl ?_
          refine g_alloc rfl Try.zeroValue28 rfl ?_
          intro q70 w71 N_q70
          have n_q9_q70 := N_q70.ne ⟨lt_of_block h_q9⟩
          have n_q70_q9 := n_q9_q70.symm
          have n_q15_q70 := N_q70.ne ⟨lt_of_block h_q15⟩
          have n_q70_q15 := n_q15_q70.symm
          have n_q38_q70 := N_q70.ne ⟨lt_of_block h_q38⟩
          have n_q70_q38 := n_q38_q70.symm
          have d_os_q70 := own_ne_new o_os N_q70
          have d_e_q70 := own_ne_new o_e N_q70
          have d_g_q70 := own_ne_new o_g N_q70
          have d_r37_q70 := own_ne_new o_r37 N_q70
          have d_x68_q70 := own_ne_new o_x68 N_q70
          have d_f68_q70 := own_ne_new o_f68 N_q70
          have g_q70 : GeB w.heap.size q70 := ⟨Nat.le_trans hB.size N_q70.lo⟩
          replace h_q9 := keep_below h_q9 N_q70.below
          replace h_q15 := keep_below h_q15 N_q70.below
          replace h_q38 := keep_below h_q38 N_q70.below
          replace o_os := own_below o_os N_q70.below
          replace o_e := own_below o_e N_q70.below
          replace o_g := own_below o_g N_q70.below
          replace o_r37 := own_below o_r37 N_q70.below
          replace o_x68 := own_below o_x68 N_q70.below
          replace o_f68 := own_below o_f68 N_q70.below
          replace hB := below_new hB hB.size N_q70
          have h_q70 := N_q70.here
          clear N_q70
          intro a35 p35
          have s10 : a35.eval (.tmp 10) = .pointer (some ⟨q70, 0, none⟩) := p35.at hs (by decide)
          replace hs := p35.st hs
          refine q_eff rfl rfl ?_
          refine g_storeB rfl s10 (((p35.ne rfl).trans (p34.ne rfl)).trans s54) Try.sizeOf28 rfl rfl h_q70 rfl ?_
          intro w72 W_w72
          replace h_q9 := keep_wrote h_q9 W_w72 n_q70_q9
          replace h_q15 := keep_wrote h_q15 W_w72 n_q70_q15
          replace h_q38 := keep_wrote h_q38 W_w72 n_q70_q38
          replace h_q70 := W_w72.here
          replace o_os := own_wrote o_os W_w72 d_os_q70
          replace o_e := own_wrote o_e W_w72 d_e_q70
          replace o_g := own_wrote o_g W_w72 d_g_q70
          replace o_r37 := own_wrote o_r37 W_w72 d_r37_q70
          replace o_x68 := own_wrote o_x68 W_w72 d_x68_q70
          replace o_f68 := own_wrote o_f68 W_w72 d_f68_q70
          replace hB := below_wrote hB hB.size W_w72 g_q70.le
          clear W_w72
          refine q_val rfl rfl ?_
          refine g_assign rfl ((p35.ne rfl).trans s55) ?_
          intro a36 p36
          have s11 : a36.eval (.tmp 11) = .slice G68 ((frs P1 c0 i j).length) g68 := p36.at hs (by decide)
          replace hs := p36.st hs
          refine wpList_nil ?_
          replace s0 : a36.eval (.tmp 0) = .slice A n c := ((p36.ne rfl).trans ((p35.ne rfl).trans ((p34.ne rfl).trans ((p33.ne rfl).trans ((p32.ne rfl).trans ((p31.ne rfl).trans (p30.ne rfl))))))).trans s0
          replace s2 : a36.eval (.tmp 2) = .bool false := ((p36.ne rfl).trans ((p35.ne rfl).trans ((p34.ne rfl).trans ((p33.ne rfl).trans ((p32.ne rfl).trans ((p31.ne rfl).trans (p30.ne rfl))))))).trans s2
          replace s3 : a36.eval (.tmp 3) = .slice O os.length co := ((p36.ne rfl).trans ((p35.ne rfl).trans ((p34.ne rfl).trans ((p33.ne rfl).trans ((p32.ne rfl).trans ((p31.ne rfl).trans (p30.ne rfl))))))).trans s3
          replace s4 : a36.eval (.tmp 4) = .pointer (some ⟨q9, 0, none⟩) := ((p36.ne rfl).trans ((p35.ne rfl).trans ((p34.ne rfl).trans ((p33.ne rfl).trans ((p32.ne rfl).trans ((p31.ne rfl).trans (p30.ne rfl))))))).trans s4
          replace s5 : a36.eval (.tmp 5) = .pointer (some ⟨q15, 0, none⟩) := ((p36.ne rfl).trans ((p35.ne rfl).trans ((p34.ne rfl).trans ((p33.ne rfl).trans ((p32.ne rfl).trans ((p31.ne rfl).trans (p30.ne rfl))))))).trans s5
          replace s6 : a36.eval (.tmp 6) = .slice G ng cg := ((p36.ne rfl).trans ((p35.ne rfl).trans ((p34.ne rfl).trans ((p33.ne rfl).trans ((p32.ne rfl).trans ((p31.ne rfl).trans (p30.ne rfl))))))).trans s6
          replace s7 : a36.eval (.tmp 7) = .int .i64 ((k : Nat) : Int) := ((p36.ne rfl).trans ((p35.ne rfl).trans ((p34.ne rfl).trans ((p33.ne rfl).trans ((p32.ne rfl).trans ((p31.ne rfl).trans (p30.ne rfl))))))).trans s7
          replace s8 : a36.eval (.tmp 8) = .pointer (some ⟨q38, 0, none⟩) := ((p36.ne rfl).trans ((p35.ne rfl).trans ((p34.ne rfl).trans ((p33.ne rfl).trans ((p32.ne rfl).trans ((p31.ne rfl).trans (p30.ne rfl))))))).trans s8
          replace s9 : a36.eval (.tmp 9) = .bool true := ((p36.ne rfl).trans ((p35.ne rfl).trans ((p34.ne rfl).trans ((p33.ne rfl).trans ((p32.ne rfl).trans ((p31.ne rfl).trans (p30.ne rfl))))))).trans s9
          replace s29 : a36.eval (.tmp 29) = .bool true := ((p36.ne rfl).trans ((p35.ne rfl).trans ((p34.ne rfl).trans ((p33.ne rfl).trans ((p32.ne rfl).trans ((p31.ne rfl).trans (p30.ne rfl))))))).trans s29
          replace s42 : a36.eval (.tmp 42) = .bool false := ((p36.ne rfl).trans ((p35.ne rfl).trans ((p34.ne rfl).trans ((p33.ne rfl).trans ((p32.ne rfl).trans ((p31.ne rfl).trans (p30.ne rfl))))))).trans s42
          replace s48 : a36.eval (.tmp 48) = .bool false := ((p36.ne rfl).trans ((p35.ne rfl).trans ((p34.ne rfl).trans ((p33.ne rfl).trans ((p32.ne rfl).trans ((p31.ne rfl).trans (p30.ne rfl))))))).trans s48
          replace s10 : a36.eval (.tmp 10) = .pointer (some ⟨q70, 0, none⟩) := (p36.ne rfl).trans s10
          refine hK67 _ _ ?_
          clear hK67
          refine wp_seq_k fun K73 hK73 => ?_
          refine wp_region_lit ?_
          refine q_val rfl rfl ?_
          refine g_loadB rfl s10 Try.isAgg28 Try.sizeOf28 rfl h_q70 ?_
          intro a37 p37
          have s56 : a37.eval (.tmp 56) = .agg #[.int .i64 0, .int .i64 ((c0 + ((i + j : Nat) : Int)) % 256), .string ⟨((flatP P1).drop (24 * (i + j))).toArray⟩, .slice A68 ((dsAt P1 (24 * (i + j))).length) c68] := p37.at hs (by decide)
          replace hs := p37.st hs
          refine q_eff rfl rfl ?_
          refine g_storeB rfl ((p37.ne rfl).trans s4) s56 Try.sizeOf28 rfl rfl h_q9 rfl ?_
          intro w74 W_w74
          replace h_q9 := W_w74.here
          replace h_q15 := keep_wrote h_q15 W_w74 n_q9_q15
          replace h_q38 := keep_wrote h_q38 W_w74 n_q9_q38
          replace h_q70 := keep_wrote h_q70 W_w74 n_q9_q70
          replace o_os := own_wrote o_os W_w74 d_os_q9
          replace o_e := own_wrote o_e W_w74 d_e_q9
          replace o_g := own_wrote o_g W_w74 d_g_q9
          replace o_r37 := own_wrote o_r37 W_w74 d_r37_q9
          replace o_x68 := own_wrote o_x68 W_w74 d_x68_q9
          replace o_f68 := own_wrote o_f68 W_w74 d_f68_q9
          replace hB := below_wrote hB hB.size W_w74 g_q9.le
          clear W_w74
          refine wpList_nil ?_
          replace s0 : a37.eval (.tmp 0) = .slice A n c := (p37.ne rfl).trans s0
          replace s2 : a37.eval (.tmp 2) = .bool false := (p37.ne rfl).trans s2
          replace s3 : a37.eval (.tmp 3) = .slice O os.length co := (p37.ne rfl).trans s3
          replace s4 : a37.eval (.tmp 4) = .pointer (some ⟨q9, 0, none⟩) := (p37.ne rfl).trans s4
          replace s5 : a37.eval (.tmp 5) = .pointer (some ⟨q15, 0, none⟩) := (p37.ne rfl).trans s5
          replace s6 : a37.eval (.tmp 6) = .slice G ng cg := (p37.ne rfl).trans s6
          replace s7 : a37.eval (.tmp 7) = .int .i64 ((k : Nat) : Int) := (p37.ne rfl).trans s7
          replace s8 : a37.eval (.tmp 8) = .pointer (some ⟨q38, 0, none⟩) := (p37.ne rfl).trans s8
          replace s9 : a37.eval (.tmp 9) = .bool true := (p37.ne rfl).trans s9
          replace s29 : a37.eval (.tmp 29) = .bool true := (p37.ne rfl).trans s29
          replace s42 : a37.eval (.tmp 42) = .bool false := (p37.ne rfl).trans s42
          replace s48 : a37.eval (.tmp 48) = .bool false := (p37.ne rfl).trans s48
          replace s10 : a37.eval (.tmp 10) = .pointer (some ⟨q70, 0, none⟩) := (p37.ne rfl).trans s10
          replace s11 : a37.eval (.tmp 11) = .slice G68 ((frs P1 c0 i j).length) g68 := (p37.ne rfl).trans s11
          refine hK73 _ _ ?_
          clear hK73
          refine wp_seq_k fun K75 hK75 => ?_
          refine wp_region_lit ?_
          refine q_val rfl rfl ?_
          refine g_loadB rfl s5 Try.isAgg42 Try.sizeOf42 rfl h_q15 ?_
          intro a38 p38
          have s58 : a38.eval (.tmp 58) = .agg #[.int .i64 u.ch, .int .i64 u.nx, .bool u.sy, .string ⟨(u.rest).toArray⟩, .int .i64 u.lost] := p38.at hs (by decide)
          replace hs := p38.st hs
          refine q_val rfl rfl ?_
          refine g_move rfl ((p38.ne rfl).trans s11) ?_
          intro a39 p39
          have s59 : a39.eval (.tmp 59) = .slice G68 ((frs P1 c0 i j).length) g68 := p39.at hs (by decide)
          replace hs := p39.st hs
          refine q_val rfl rfl ?_
          refine g_call rfl rfl Try.call13 (arr2 ((p39.ne rfl).trans s58) s59) ?_
          refine (pushFrames_any (u := u) _ _ _ (frs P1 c0 i j) _ hps1 rfl (by omega) (Rd.of_own o_f68)).mono ?_
          rintro e w77 ⟨A76, c76, rfl, o_x76, hb76⟩
          refine ⟨_, rfl, ?_⟩
          have d_x76_q9 := own_ne_box o_x76 (lt_of_block h_q9)
          have d_x76_q15 := own_ne_box o_x76 (lt_of_block h_q15)
          have d_x76_q38 := own_ne_box o_x76 (lt_of_block h_q38)
          have d_x76_q70 := own_ne_box o_x76 (lt_of_block h_q70)
          have m_os_x76 := own_ne_row o_os o_x76 (Nat.le_refl _)
          have m_x76_os := ne_row_symm m_os_x76
          have m_e_x76 := own_ne_row o_e o_x76 (Nat.le_refl _)
          have m_x76_e := ne_row_symm m_e_x76
          have m_g_x76 := own_ne_row o_g o_x76 (Nat.le_refl _)
          have m_x76_g := ne_row_symm m_g_x76
          have m_r37_x76 := own_ne_row o_r37 o_x76 (Nat.le_refl _)
          have m_x76_r37 := ne_row_symm m_r37_x76
          have m_x68_x76 := own_ne_row o_x68 o_x76 (Nat.le_refl _)
          have m_x76_x68 := ne_row_symm m_x68_x76
          have m_f68_x76 := own_ne_row o_f68 o_x76 (Nat.le_refl _)
          have m_x76_f68 := ne_row_symm m_f68_x76
          have g_x76 : ∀ b, (A76 : Option Addr).map (·.block) = some b → w.heap.size ≤ b := fun b h => Nat.le_trans hB.size (own_row o_x76 b h).1
          replace o_x76 := own_base (base := w.heap.size) o_x76 hB.size
          replace h_q9 := keep_below h_q9 hb76
          replace h_q15 := keep_below h_q15 hb76
          replace h_q38 := keep_below h_q38 hb76
          replace h_q70 := keep_below h_q70 hb76
          replace o_os := own_below o_os hb76
          replace o_e := own_below o_e hb76
          replace o_g := own_below o_g hb76
          replace o_r37 := own_below o_r37 hb76
          replace o_x68 := own_below o_x68 hb76
          replace o_f68 := own_below o_f68 hb76
          replace hB := hB.trans (hb76.mono hB.size)
          clear hb76
          intro a40 p40
          have s60 : a40.eval (.tmp 60) = .tuple #[.agg #[.int .i64 ((pushUs u (frs P1 c0 i j)).ch), .int .i64 ((pushUs u (frs P1 c0 i j)).nx), .bool ((pushUs u (frs P1 c0 i j)).sy), .string ⟨((pushUs u (frs P1 c0 i j)).rest).toArray⟩, .int .i64 ((pushUs u (frs P1 c0 i j)).lost)], .slice A76 ((pushLs u (frs P1 c0 i j)).length) c76] := p40.at hs (by decide)
          replace hs := p40.st hs
          refine q_val rfl rfl ?_
          refine g_move rfl s60 ?_
          intro a41 p41
          have s57 : a41.eval (.tmp 57) = .tuple #[.agg #[.int .i64 ((pushUs u (frs P1 c0 i j)).ch), .int .i64 ((pushUs u (frs P1 c0 i j)).nx), .bool ((pushUs u (frs P1 c0 i j)).sy), .string ⟨((pushUs u (frs P1 c0 i j)).rest).toArray⟩, .int .i64 ((pushUs u (frs P1 c0 i j)).lost)], .slice A76 ((pushLs u (frs P1 c0 i j)).length) c76] := p41.at hs (by decide)
          replace hs := p41.st hs
          refine q_val rfl rfl ?_
          refine g_extract rfl s57 rfl ?_
          intro a42 p42
          have s61 : a42.eval (.tmp 61) = .agg #[.int .i64 ((pushUs u (frs P1 c0 i j)).ch), .int .i64 ((pushUs u (frs P1 c0 i j)).nx), .bool ((pushUs u (frs P1 c0 i j)).sy), .string ⟨((pushUs u (frs P1 c0 i j)).rest).toArray⟩, .int .i64 ((pushUs u (frs P1 c0 i j)).lost)] := p42.at hs (by decide)
          replace hs := p42.st hs
          refine q_val rfl rfl ?_
          refine g_extract rfl ((p42.ne rfl).trans s57) rfl ?_
          intro a43 p43
          have s62 : a43.eval (.tmp 62) = .slice A76 ((pushLs u (frs P1 c0 i j)).length) c76 := p43.at hs (by decide)
          replace hs := p43.st hs
          refine q_val rfl rfl ?_
          refine g_alloc rfl Try.zeroValue42 rfl ?_
          intro q78 w79 N_q78
          have n_q9_q78 := N_q78.ne ⟨lt_of_block h_q9⟩
          have n_q78_q9 := n_q9_q78.symm
          have n_q15_q78 := N_q78.ne ⟨lt_of_block h_q15⟩
          have n_q78_q15 := n_q15_q78.symm
          have n_q38_q78 := N_q78.ne ⟨lt_of_block h_q38⟩
          have n_q78_q38 := n_q38_q78.symm
          have n_q70_q78 := N_q78.ne ⟨lt_of_block h_q70⟩
          have n_q78_q70 := n_q70_q78.symm
          have d_os_q78 := own_ne_new o_os N_q78
          have d_e_q78 := own_ne_new o_e N_q78
          have d_g_q78 := own_ne_new o_g N_q78
          have d_r37_q78 := own_ne_new o_r37 N_q78
          have d_x68_q78 := own_ne_new o_x68 N_q78
          have d_f68_q78 := own_ne_new o_f68 N_q78
          have d_x76_q78 := own_ne_new o_x76 N_q78
          have g_q78 : GeB w.heap.size q78 := ⟨Nat.le_trans hB.size N_q78.lo⟩
          replace h_q9 := keep_below h_q9 N_q78.below
          replace h_q15 := keep_below h_q15 N_q78.below
          replace h_q38 := keep_below h_q38 N_q78.below
          replace h_q70 := keep_below h_q70 N_q78.below
          replace o_os := own_below o_os N_q78.below
          replace o_e := own_below o_e N_q78.below
          replace o_g := own_below o_g N_q78.below
          replace o_r37 := own_below o_r37 N_q78.below
          replace o_x68 := own_below o_x68 N_q78.below
          replace o_f68 := own_below o_f68 N_q78.below
          replace o_x76 := own_below o_x76 N_q78.below
          replace hB := below_new hB hB.size N_q78
          have h_q78 := N_q78.here
          clear N_q78
          intro a44 p44
          have s12 : a44.eval (.tmp 12) = .pointer (some ⟨q78, 0, none⟩) := p44.at hs (by decide)
          replace hs := p44.st hs
          refine q_eff rfl rfl ?_
          refine g_storeB rfl s12 (((p44.ne rfl).trans (p43.ne rfl)).trans s61) Try.sizeOf42 rfl rfl h_q78 rfl ?_
          intro w80 W_w80
          replace h_q9 := keep_wrote h_q9 W_w80 n_q78_q9
          replace h_q15 := keep_wrote h_q15 W_w80 n_q78_q15
          replace h_q38 := keep_wrote h_q38 W_w80 n_q78_q38
          replace h_q70 := keep_wrote h_q70 W_w80 n_q78_q70
          replace h_q78 := W_w80.here
          replace o_os := own_wrote o_os W_w80 d_os_q78
          replace o_e := own_wrote o_e W_w80 d_e_q78
          replace o_g := own_wrote o_g W_w80 d_g_q78
          replace o_r37 := own_wrote o_r37 W_w80 d_r37_q78
          replace o_x68 := own_wrote o_x68 W_w80 d_x68_q78
          replace o_f68 := own_wrote o_f68 W_w80 d_f68_q78
          replace o_x76 := own_wrote o_x76 W_w80 d_x76_q78
          replace hB := below_wrote hB hB.size W_w80 g_q78.le
          clear W_w80
          refine q_val rfl rfl ?_
          refine g_assign rfl ((p44.ne rfl).trans s62) ?_
          intro a45 p45
          have s13 : a45.eval (.tmp 13) = .slice A76 ((pushLs u (frs P1 c0 i j)).length) c76 := p45.at hs (by decide)
          replace hs := p45.st hs
          refine wpList_nil ?_
          replace s0 : a45.eval (.tmp 0) = .slice A n c := ((p45.ne rfl).trans ((p44.ne rfl).trans ((p43.ne rfl).trans ((p42.ne rfl).trans ((p41.ne rfl).trans ((p40.ne rfl).trans ((p39.ne rfl).trans (p38.ne rfl)))))))).trans s0
          replace s2 : a45.eval (.tmp 2) = .bool false := ((p45.ne rfl).trans ((p44.ne rfl).trans ((p43.ne rfl).trans ((p42.ne rfl).trans ((p41.ne rfl).trans ((p40.ne rfl).trans ((p39.ne rfl).trans (p38.ne rfl)))))))).trans s2
          replace s3 : a45.eval (.tmp 3) = .slice O os.length co := ((p45.ne rfl).trans ((p44.ne rfl).trans ((p43.ne rfl).trans ((p42.ne rfl).trans ((p41.ne rfl).trans ((p40.ne rfl).trans ((p39.ne rfl).trans (p38.ne rfl)))))))).trans s3
          replace s4 : a45.eval (.tmp 4) = .pointer (some ⟨q9, 0, none⟩) := ((p45.ne rfl).trans ((p44.ne rfl).trans ((p43.ne rfl).trans ((p42.ne rfl).trans ((p41.ne rfl).trans ((p40.ne rfl).trans ((p39.ne rfl).trans (p38.ne rfl)))))))).trans s4
          replace s5 : a45.eval (.tmp 5) = .pointer (some ⟨q15, 0, none⟩) := ((p45.ne rfl).trans ((p44.ne rfl).trans ((p43.ne rfl).trans ((p42.ne rfl).trans ((p41.ne rfl).trans ((p40.ne rfl).trans ((p39.ne rfl).trans (p38.ne rfl)))))))).trans s5
          replace s6 : a45.eval (.tmp 6) = .slice G ng cg := ((p45.ne rfl).trans ((p44.ne rfl).trans ((p43.ne rfl).trans ((p42.ne rfl).trans ((p41.ne rfl).trans ((p40.ne rfl).trans ((p39.ne rfl).trans (p38.ne rfl)))))))).trans s6
          replace s7 : a45.eval (.tmp 7) = .int .i64 ((k : Nat) : Int) := ((p45.ne rfl).trans ((p44.ne rfl).trans ((p43.ne rfl).trans ((p42.ne rfl).trans ((p41.ne rfl).trans ((p40.ne rfl).trans ((p39.ne rfl).trans (p38.ne rfl)))))))).trans s7
          replace s8 : a45.eval (.tmp 8) = .pointer (some ⟨q38, 0, none⟩) := ((p45.ne rfl).trans ((p44.ne rfl).trans ((p43.ne rfl).trans ((p42.ne rfl).trans ((p41.ne rfl).trans ((p40.ne rfl).trans ((p39.ne rfl).trans (p38.ne rfl)))))))).trans s8
          replace s9 : a45.eval (.tmp 9) = .bool true := ((p45.ne rfl).trans ((p44.ne rfl).trans ((p43.ne rfl).trans ((p42.ne rfl).trans ((p41.ne rfl).trans ((p40.ne rfl).trans ((p39.ne rfl).trans (p38.ne rfl)))))))).trans s9
          replace s29 : a45.eval (.tmp 29) = .bool true := ((p45.ne rfl).trans ((p44.ne rfl).trans ((p43.ne rfl).trans ((p42.ne rfl).trans ((p41.ne rfl).trans ((p40.ne rfl).trans ((p39.ne rfl).trans (p38.ne rfl)))))))).trans s29
          replace s42 : a45.eval (.tmp 42) = .bool false := ((p45.ne rfl).trans ((p44.ne rfl).trans ((p43.ne rfl).trans ((p42.ne rfl).trans ((p41.ne rfl).trans ((p40.ne rfl).trans ((p39.ne rfl).trans (p38.ne rfl)))))))).trans s42
          replace s48 : a45.eval (.tmp 48) = .bool false := ((p45.ne rfl).trans ((p44.ne rfl).trans ((p43.ne rfl).trans ((p42.ne rfl).trans ((p41.ne rfl).trans ((p40.ne rfl).trans ((p39.ne rfl).trans (p38.ne rfl)))))))).trans s48
          replace s10 : a45.eval (.tmp 10) = .pointer (some ⟨q70, 0, none⟩) := ((p45.ne rfl).trans ((p44.ne rfl).trans ((p43.ne rfl).trans ((p42.ne rfl).trans ((p41.ne rfl).trans ((p40.ne rfl).trans ((p39.ne rfl).trans (p38.ne rfl)))))))).trans s10
          replace s11 : a45.eval (.tmp 11) = .slice G68 ((frs P1 c0 i j).length) g68 := ((p45.ne rfl).trans ((p44.ne rfl).trans ((p43.ne rfl).trans ((p42.ne rfl).trans ((p41.ne rfl).trans ((p40.ne rfl).trans ((p39.ne rfl).trans (p38.ne rfl)))))))).trans s11
          replace s12 : a45.eval (.tmp 12) = .pointer (some ⟨q78, 0, none⟩) := (p45.ne rfl).trans s12
          refine hK75 _ _ ?_
          clear hK75
          refine wp_seq_k fun K81 hK81 => ?_
          refine wp_region_lit ?_
          refine q_val rfl rfl ?_
          refine g_loadB rfl s12 Try.isAgg42 Try.sizeOf42 rfl h_q78 ?_
          intro a46 p46
          have s63 : a46.eval (.tmp 63) = .agg #[.int .i64 ((pushUs u (frs P1 c0 i j)).ch), .int .i64 ((pushUs u (frs P1 c0 i j)).nx), .bool ((pushUs u (frs P1 c0 i j)).sy), .string ⟨((pushUs u (frs P1 c0 i j)).rest).toArray⟩, .int .i64 ((pushUs u (frs P1 c0 i j)).lost)] := p46.at hs (by decide)
          replace hs := p46.st hs
          refine q_eff rfl rfl ?_
          refine g_storeB rfl ((p46.ne rfl).trans s5) s63 Try.sizeOf42 rfl rfl h_q15 rfl ?_
          intro w82 W_w82
          replace h_q9 := keep_wrote h_q9 W_w82 n_q15_q9
          replace h_q15 := W_w82.here
          replace h_q38 := keep_wrote h_q38 W_w82 n_q15_q38
          replace h_q70 := keep_wrote h_q70 W_w82 n_q15_q70
          replace h_q78 := keep_wrote h_q78 W_w82 n_q15_q78
          replace o_os := own_wrote o_os W_w82 d_os_q15
          replace o_e := own_wrote o_e W_w82 d_e_q15
          replace o_g := own_wrote o_g W_w82 d_g_q15
          replace o_r37 := own_wrote o_r37 W_w82 d_r37_q15
          replace o_x68 := own_wrote o_x68 W_w82 d_x68_q15
          replace o_f68 := own_wrote o_f68 W_w82 d_f68_q15
          replace o_x76 := own_wrote o_x76 W_w82 d_x76_q15
          replace hB := below_wrote hB hB.size W_w82 g_q15.le
          clear W_w82
          refine wpList_nil ?_
          replace s0 : a46.eval (.tmp 0) = .slice A n c := (p46.ne rfl).trans s0
          replace s2 : a46.eval (.tmp 2) = .bool false := (p46.ne rfl).trans s2
          replace s3 : a46.eval (.tmp 3) = .slice O os.length co := (p46.ne rfl).trans s3
          replace s4 : a46.eval (.tmp 4) = .pointer (some ⟨q9, 0, none⟩) := (p46.ne rfl).trans s4
          replace s5 : a46.eval (.tmp 5) = .pointer (some ⟨q15, 0, none⟩) := (p46.ne rfl).trans s5
          replace s6 : a46.eval (.tmp 6) = .slice G ng cg := (p46.ne rfl).trans s6
          replace s7 : a46.eval (.tmp 7) = .int .i64 ((k : Nat) : Int) := (p46.ne rfl).trans s7
          replace s8 : a46.eval (.tmp 8) = .pointer (some ⟨q38, 0, none⟩) := (p46.ne rfl).trans s8
          replace s9 : a46.eval (.tmp 9) = .bool true := (p46.ne rfl).trans s9
          replace s29 : a46.eval (.tmp 29) = .bool true := (p46.ne rfl).trans s29
          replace s42 : a46.eval (.tmp 42) = .bool false := (p46.ne rfl).trans s42
          replace s48 : a46.eval (.tmp 48) = .bool false := (p46.ne rfl).trans s48
          replace s10 : a46.eval (.tmp 10) = .pointer (some ⟨q70, 0, none⟩) := (p46.ne rfl).trans s10
          replace s11 : a46.eval (.tmp 11) = .slice G68 ((frs P1 c0 i j).length) g68 := (p46.ne rfl).trans s11
          replace s12 : a46.eval (.tmp 12) = .pointer (some ⟨q78, 0, none⟩) := (p46.ne rfl).trans s12
          replace s13 : a46.eval (.tmp 13) = .slice A76 ((pushLs u (frs P1 c0 i j)).length) c76 := (p46.ne rfl).trans s13
          refine hK81 _ _ ?_
          clear hK81
          refine wp_region_lit ?_
          refine q_val rfl rfl ?_
          refine g_move rfl s6 ?_
          intro a47 p47
          have s64 : a47.eval (.tmp 64) = .slice G ng cg := p47.at hs (by decide)
          replace hs := p47.st hs
          refine q_val rfl rfl ?_
          refine g_move rfl ((p47.ne rfl).trans s13) ?_
          intro a48 p48
          have s65 : a48.eval (.tmp 65) = .slice A76 ((pushLs u (frs P1 c0 i j)).length) c76 := p48.at hs (by decide)
          replace hs := p48.st hs
          refine q_val rfl rfl ?_
          refine g_append (n' := ng + ((pushLs u (frs P1 c0 i j)).length)) (ys := (got ++ (pushLs u (frs P1 c0 i j))).flatMap cPacket) w.heap.size (.agg #[.int .i64 0, .int .i64 0, .string ⟨#[]⟩]) 3 32 rfl ((p48.ne rfl).trans s64) s65 Try.underlying24 infoPacket rfl (by decide) o_g (own_nil o_x76) (Rd.of_own o_x76) (flatPacket_one _) (by omega) hB.size (by decide) (by omega) (by first | rfl | simp [List.flatMap_append] | (simp [List.flatMap_append, cPacket]; done)) ?_
          intro A_r83 c_r83 w84 P_r83
          have d_r83_q9 := P_r83.ne d_g_q9 (lt_of_block h_q9)
          have d_r83_q15 := P_r83.ne d_g_q15 (lt_of_block h_q15)
          have d_r83_q38 := P_r83.ne d_g_q38 (lt_of_block h_q38)
          have d_r83_q70 := P_r83.ne d_g_q70 (lt_of_block h_q70)
          have d_r83_q78 := P_r83.ne d_g_q78 (lt_of_block h_q78)
          have m_os_r83 := P_r83.row m_os_g o_os
          have m_r83_os := ne_row_symm m_os_r83
          have m_e_r83 := P_r83.row m_e_g o_e
          have m_r83_e := ne_row_symm m_e_r83
          have m_r37_r83 := P_r83.row m_r37_g o_r37
          have m_r83_r37 := ne_row_symm m_r37_r83
          have m_x68_r83 := P_r83.row m_x68_g o_x68
          have m_r83_x68 := ne_row_symm m_x68_r83
          have m_f68_r83 := P_r83.row m_f68_g o_f68
          have m_r83_f68 := ne_row_symm m_f68_r83
          have m_x76_r83 := P_r83.row m_x76_g o_x76
          have m_r83_x76 := ne_row_symm m_x76_r83
          have g_r83 := P_r83.ge g_g hB.size
          replace h_q9 := keep_grown h_q9 P_r83.grown d_g_q9
          replace h_q15 := keep_grown h_q15 P_r83.grown d_g_q15
          replace h_q38 := keep_grown h_q38 P_r83.grown d_g_q38
          replace h_q70 := keep_grown h_q70 P_r83.grown d_g_q70
          replace h_q78 := keep_grown h_q78 P_r83.grown d_g_q78
          replace o_os := own_grown o_os P_r83.grown m_os_g
          replace o_e := own_grown o_e P_r83.grown m_e_g
          replace o_r37 := own_grown o_r37 P_r83.grown m_r37_g
          replace o_x68 := own_grown o_x68 P_r83.grown m_x68_g
          replace o_f68 := own_grown o_f68 P_r83.grown m_f68_g
          replace o_x76 := own_grown o_x76 P_r83.grown m_x76_g
          replace hB := below_grown hB hB.size P_r83.grown g_g
          have o_r83 := P_r83.own
          clear P_r83
          intro a49 p49
          have s66 : a49.eval (.tmp 66) = .slice A_r83 (ng + ((pushLs u (frs P1 c0 i j)).length)) c_r83 := p49.at hs (by decide)
          replace hs := p49.st hs
          refine q_val rfl rfl ?_
          refine g_assign rfl s66 ?_
          intro a50 p50
          have s6 : a50.eval (.tmp 6) = .slice A_r83 (ng + ((pushLs u (frs P1 c0 i j)).length)) c_r83 := p50.at hs (by decide)
          replace hs := p50.st hs
          refine wpList_nil ?_
          replace s0 : a50.eval (.tmp 0) = .slice A n c := ((p50.ne rfl).trans ((p49.ne rfl).trans ((p48.ne rfl).trans (p47.ne rfl)))).trans s0
          replace s2 : a50.eval (.tmp 2) = .bool false := ((p50.ne rfl).trans ((p49.ne rfl).trans ((p48.ne rfl).trans (p47.ne rfl)))).trans s2
          replace s3 : a50.eval (.tmp 3) = .slice O os.length co := ((p50.ne rfl).trans ((p49.ne rfl).trans ((p48.ne rfl).trans (p47.ne rfl)))).trans s3
          replace s4 : a50.eval (.tmp 4) = .pointer (some ⟨q9, 0, none⟩) := ((p50.ne rfl).trans ((p49.ne rfl).trans ((p48.ne rfl).trans (p47.ne rfl)))).trans s4
          replace s5 : a50.eval (.tmp 5) = .pointer (some ⟨q15, 0, none⟩) := ((p50.ne rfl).trans ((p49.ne rfl).trans ((p48.ne rfl).trans (p47.ne rfl)))).trans s5
          replace s7 : a50.eval (.tmp 7) = .int .i64 ((k : Nat) : Int) := ((p50.ne rfl).trans ((p49.ne rfl).trans ((p48.ne rfl).trans (p47.ne rfl)))).trans s7
          replace s8 : a50.eval (.tmp 8) = .pointer (some ⟨q38, 0, none⟩) := ((p50.ne rfl).trans ((p49.ne rfl).trans ((p48.ne rfl).trans (p47.ne rfl)))).trans s8
          replace s9 : a50.eval (.tmp 9) = .bool true := ((p50.ne rfl).trans ((p49.ne rfl).trans ((p48.ne rfl).trans (p47.ne rfl)))).trans s9
          replace s29 : a50.eval (.tmp 29) = .bool true := ((p50.ne rfl).trans ((p49.ne rfl).trans ((p48.ne rfl).trans (p47.ne rfl)))).trans s29
          replace s42 : a50.eval (.tmp 42) = .bool false := ((p50.ne rfl).trans ((p49.ne rfl).trans ((p48.ne rfl).trans (p47.ne rfl)))).trans s42
          replace s48 : a50.eval (.tmp 48) = .bool false := ((p50.ne rfl).trans ((p49.ne rfl).trans ((p48.ne rfl).trans (p47.ne rfl)))).trans s48
          replace s10 : a50.eval (.tmp 10) = .pointer (some ⟨q70, 0, none⟩) := ((p50.ne rfl).trans ((p49.ne rfl).trans ((p48.ne rfl).trans (p47.ne rfl)))).trans s10
          replace s11 : a50.eval (.tmp 11) = .slice G68 ((frs P1 c0 i j).length) g68 := ((p50.ne rfl).trans ((p49.ne rfl).trans ((p48.ne rfl).trans (p47.ne rfl)))).trans s11
          replace s12 : a50.eval (.tmp 12) = .pointer (some ⟨q78, 0, none⟩) := ((p50.ne rfl).trans ((p49.ne rfl).trans ((p48.ne rfl).trans (p47.ne rfl)))).trans s12
          replace s13 : a50.eval (.tmp 13) = .slice A76 ((pushLs u (frs P1 c0 i j)).length) c76 := ((p50.ne rfl).trans ((p49.ne rfl).trans ((p48.ne rfl).trans (p47.ne rfl)))).trans s13
          refine hK29 _ _ ?_
          clear hK29
          refine wp_region_lit ?_
          refine q_val rfl rfl ?_
          refine g_move rfl s7 ?_
          intro a51 p51
          have s30 : a51.eval (.tmp 30) = .int .i64 ((k : Nat) : Int) := p51.at hs (by decide)
          replace hs := p51.st hs
          refine q_val rfl rfl ?_
          refine g_add (r := ((k + 1 : Nat) : Int)) rfl s30 rfl (by omega) (by omega) ?_
          intro a52 p52
          have s31 : a52.eval (.tmp 31) = .int .i64 ((k + 1 : Nat) : Int) := p52.at hs (by decide)
          replace hs := p52.st hs
          refine q_val rfl rfl ?_
          refine g_assign rfl s31 ?_
          intro a53 p53
          have s7 : a53.eval (.tmp 7) = .int .i64 ((k + 1 : Nat) : Int) := p53.at hs (by decide)
          replace hs := p53.st hs
          refine wpList_nil ?_
          replace s0 : a53.eval (.tmp 0) = .slice A n c := ((p53.ne rfl).trans ((p52.ne rfl).trans (p51.ne rfl))).trans s0
          replace s2 : a53.eval (.tmp 2) = .bool false := ((p53.ne rfl).trans ((p52.ne rfl).trans (p51.ne rfl))).trans s2
          replace s3 : a53.eval (.tmp 3) = .slice O os.length co := ((p53.ne rfl).trans ((p52.ne rfl).trans (p51.ne rfl))).trans s3
          replace s4 : a53.eval (.tmp 4) = .pointer (some ⟨q9, 0, none⟩) := ((p53.ne rfl).trans ((p52.ne rfl).trans (p51.ne rfl))).trans s4
          replace s5 : a53.eval (.tmp 5) = .pointer (some ⟨q15, 0, none⟩) := ((p53.ne rfl).trans ((p52.ne rfl).trans (p51.ne rfl))).trans s5
          replace s6 : a53.eval (.tmp 6) = .slice A_r83 (ng + ((pushLs u (frs P1 c0 i j)).length)) c_r83 := ((p53.ne rfl).trans ((p52.ne rfl).trans (p51.ne rfl))).trans s6
          replace s8 : a53.eval (.tmp 8) = .pointer (some ⟨q38, 0, none⟩) := ((p53.ne rfl).trans ((p52.ne rfl).trans (p51.ne rfl))).trans s8
          replace s9 : a53.eval (.tmp 9) = .bool true := ((p53.ne rfl).trans ((p52.ne rfl).trans (p51.ne rfl))).trans s9
          replace s29 : a53.eval (.tmp 29) = .bool true := ((p53.ne rfl).trans ((p52.ne rfl).trans (p51.ne rfl))).trans s29
          replace s42 : a53.eval (.tmp 42) = .bool false := ((p53.ne rfl).trans ((p52.ne rfl).trans (p51.ne rfl))).trans s42
          replace s48 : a53.eval (.tmp 48) = .bool false := ((p53.ne rfl).trans ((p52.ne rfl).trans (p51.ne rfl))).trans s48
          replace s10 : a53.eval (.tmp 10) = .pointer (some ⟨q70, 0, none⟩) := ((p53.ne rfl).trans ((p52.ne rfl).trans (p51.ne rfl))).trans s10
          replace s11 : a53.eval (.tmp 11) = .slice G68 ((frs P1 c0 i j).length) g68 := ((p53.ne rfl).trans ((p52.ne rfl).trans (p51.ne rfl))).trans s11
          replace s12 : a53.eval (.tmp 12) = .pointer (some ⟨q78, 0, none⟩) := ((p53.ne rfl).trans ((p52.ne rfl).trans (p51.ne rfl))).trans s12
          replace s13 : a53.eval (.tmp 13) = .slice A76 ((pushLs u (frs P1 c0 i j)).length) c76 := ((p53.ne rfl).trans ((p52.ne rfl).trans (p51.ne rfl))).trans s13
          have o_e := o_x68
          have g_e := g_x68
          have d_e_q9 := d_x68_q9
          have d_e_q15 := d_x68_q15
          have m_os_e := m_os_x68
          have m_e_os := m_x68_os
          have m_g_e := m_r83_x68
          have m_e_g := m_x68_r83
          have o_g := o_r83
          have g_g := g_r83
          have d_g_q9 := d_r83_q9
          have d_g_q15 := d_r83_q15
          have m_os_g := m_os_r83
          have m_g_os := m_r83_os
          have m_e_g := m_x68_r83
          have m_g_e := m_r83_x68
          refine show _ ∧ _ from ⟨⟨k + 1, P1, i + j, pushUs u (frs P1 c0 i j), got ++ pushLs u (frs P1 c0 i j), _, _, _, _, _, hs, s0, s2, s3, s4, s5, s6, s7, hB, h_q9, h_q15, o_os, o_e, o_g, d_e_q9, d_e_q15, m_os_e, m_e_os, m_g_e, g_e, d_g_q9, d_g_q15, m_os_g, m_g_os, m_e_g, g_g, hps2, (by rw [List.length_append, hng])⟩, ?_⟩
          show os.length - (intOf (a53.eval (.tmp 7))).toNat < os.length - (intOf (a16.eval (.tmp 7))).toNat
          rw [s7, mu25]
          simp only [intOf]
          omega
    · replace s29 := s29.trans (congrArg Value.bool (decide_eq_false hc28))
      replace s29 : a20.eval (.tmp 29) = .bool false := s29
      refine c_false s29 ?_
      refine wp_exit ?_
      refine hK21 _ _ ?_
      clear hK21
      refine wp_seq_k fun K85 hK85 => ?_
      have hkz : k = os.length := by omega
      subst hkz
      have hfb : (flatP P).length + 44 ≤ 24 * i + 5000 := by omega
      refine wp_region_lit ?_
      refine q_val rfl rfl ?_
      refine g_loadB rfl s4 Try.isAgg28 Try.sizeOf28 rfl h_q9 ?_
      intro a21 p21
      have s68 : a21.eval (.tmp 68) = .agg #[.int .i64 0, .int .i64 ((c0 + ((i : Nat) : Int)) % 256), .string ⟨((flatP P).drop (24 * i)).toArray⟩, .slice E ((dsAt P (24 * i)).length) ce] := p21.at hs (by decide)
      replace hs := p21.st hs
      refine q_val rfl rfl ?_
      refine g_call rfl rfl Try.call11 (arr1 s68) ?_
      refine (fillPacker_at (P := P) (n := (24 * i)) hI.uw.le hfb hct (by omega) rfl (own_nil o_e) (Rd.of_own o_e)).mono ?_
      rintro e w87 ⟨I86, A86, c86, rfl, o_x86, hi1, hi2, hi3, hb86⟩
      refine ⟨_, rfl, ?_⟩
      have d_x86_q9 := own_ne_box o_x86 (lt_of_block h_q9)
      have d_x86_q15 := own_ne_box o_x86 (lt_of_block h_q15)
      have m_os_x86 := own_ne_row o_os o_x86 (Nat.le_refl _)
      have m_x86_os := ne_row_symm m_os_x86
      have m_e_x86 := own_ne_row o_e o_x86 (Nat.le_refl _)
      have m_x86_e := ne_row_symm m_e_x86
      have m_g_x86 := own_ne_row o_g o_x86 (Nat.le_refl _)
      have m_x86_g := ne_row_symm m_g_x86
      have g_x86 : ∀ b, (A86 : Option Addr).map (·.block) = some b → w.heap.size ≤ b := fun b h => Nat.le_trans hB.size (own_row o_x86 b h).1
      replace o_x86 := own_base (base := w.heap.size) o_x86 hB.size
      replace h_q9 := keep_below h_q9 hb86
      replace h_q15 := keep_below h_q15 hb86
      replace o_os := own_below o_os hb86
      replace o_e := own_below o_e hb86
      replace o_g := own_below o_g hb86
      replace hB := hB.trans (hb86.mono hB.size)
      clear hb86
      have hil := idle_few hi3
      have hPo : (flatP P).length ≤ (flatP (P ++ I86)).length := by rw [flatP_append, List.length_append]; omega
      obtain ⟨j, hj⟩ : ∃ j, j = (flatP (P ++ I86)).length / 24 - i := ⟨_, rfl⟩
      have hj1 : (flatP (P ++ I86)).length = 24 * (i + j) := by omega
      clear hj hi2
      have hPl : (P ++ I86).length ≤ 1048576 := by rw [List.length_append]; omega
      obtain ⟨hps1, e1, e2, e3, e4⟩ := hI.fin hc0 hi1 hj1
      have e5 : dsAt (P ++ I86) (24 * (i + j)) = [] := dsAt_end (by omega)
      intro a22 p22
      have s69 : a22.eval (.tmp 69) = .agg #[.int .i64 0, .int .i64 ((c0 + ((i : Nat) : Int)) % 256), .string ⟨((flatP (P ++ I86)).drop (24 * i)).toArray⟩, .slice A86 ((dsAt (P ++ I86) (24 * i)).length) c86] := p22.at hs (by decide)
      replace hs := p22.st hs
      refine q_val rfl rfl ?_
      refine g_call rfl rfl Try.call10 (arr1 s69) ?_
      refine (takeFrames_at (P := (P ++ I86)) (c0 := c0) (i := i) (k := j) rfl hc0 (by omega) (by omega) (by omega) hPl rfl (own_nil o_x86) (Rd.of_own o_x86)).mono ?_
      rintro e w89 ⟨A88, c88, G88, g88, rfl, o_x88, o_f88, hb88⟩
      refine ⟨_, rfl, ?_⟩
      have m_x88_f88 := own_ne_type o_x88 o_f88 (by decide)
      have m_f88_x88 := ne_row_symm m_x88_f88
      have d_x88_q9 := own_ne_box o_x88 (lt_of_block h_q9)
      have d_x88_q15 := own_ne_box o_x88 (lt_of_block h_q15)
      have m_os_x88 := own_ne_row o_os o_x88 (Nat.le_refl _)
      have m_x88_os := ne_row_symm m_os_x88
      have m_e_x88 := own_ne_row o_e o_x88 (Nat.le_refl _)
      have m_x88_e := ne_row_symm m_e_x88
      have m_g_x88 := own_ne_row o_g o_x88 (Nat.le_refl _)
      have m_x88_g := ne_row_symm m_g_x88
      have m_x86_x88 := own_ne_row o_x86 o_x88 (Nat.le_refl _)
      have m_x88_x86 := ne_row_symm m_x86_x88
      have g_x88 : ∀ b, (A88 : Option Addr).map (·.block) = some b → w.heap.size ≤ b := fun b h => Nat.le_trans hB.size (own_row o_x88 b h).1
      replace o_x88 := own_base (base := w.heap.size) o_x88 hB.size
      have d_f88_q9 := own_ne_box o_f88 (lt_of_block h_q9)
      have d_f88_q15 := own_ne_box o_f88 (lt_of_block h_q15)
      have m_os_f88 := own_ne_row o_os o_f88 (Nat.le_refl _)
      have m_f88_os := ne_row_symm m_os_f88
      have m_e_f88 := own_ne_row o_e o_f88 (Nat.le_refl _)
      have m_f88_e := ne_row_symm m_e_f88
      have m_g_f88 := own_ne_row o_g o_f88 (Nat.le_refl _)
      have m_f88_g := ne_row_symm m_g_f88
      have m_x86_f88 := own_ne_row o_x86 o_f88 (Nat.le_refl _)
      have m_f88_x86 := ne_row_symm m_x86_f88
      have g_f88 : ∀ b, (G88 : Option Addr).map (·.block) = some b → w.heap.size ≤ b := fun b h => Nat.le_trans hB.size (own_row o_f88 b h).1
      replace o_f88 := own_base (base := w.heap.size) o_f88 hB.size
      replace h_q9 := keep_below h_q9 hb88
      replace h_q15 := keep_below h_q15 hb88
      replace o_os := own_below o_os hb88
      replace o_e := own_below o_e hb88
      replace o_g := own_below o_g hb88
      replace o_x86 := own_below o_x86 hb88
      replace hB := hB.trans (hb88.mono hB.size)
      clear hb88
      intro a23 p23
      have s70 : a23.eval (.tmp 70) = .tuple #[.agg #[.int .i64 0, .int .i64 ((c0 + ((i + j : Nat) : Int)) % 256), .string ⟨((flatP (P ++ I86)).drop (24 * (i + j))).toArray⟩, .slice A88 ((dsAt (P ++ I86) (24 * (i + j))).length) c88], .slice G88 ((frs (P ++ I86) c0 i j).length) g88] := p23.at hs (by decide)
      replace hs := p23.st hs
      refine q_val rfl rfl ?_
      refine g_move rfl s70 ?_
      intro a24 p24
      have s67 : a24.eval (.tmp 67) = .tuple #[.agg #[.int .i64 0, .int .i64 ((c0 + ((i + j : Nat) : Int)) % 256), .string ⟨((flatP (P ++ I86)).drop (24 * (i + j))).toArray⟩, .slice A88 ((dsAt (P ++ I86) (24 * (i + j))).length) c88], .slice G88 ((frs (P ++ I86) c0 i j).length) g88] := p24.at hs (by decide)
      replace hs := p24.st hs
      refine q_val rfl rfl ?_
      refine g_extract rfl s67 rfl ?_
      intro a25 p25
      have s71 : a25.eval (.tmp 71) = .agg #[.int .i64 0, .int .i64 ((c0 + ((i + j : Nat) : Int)) % 256), .string ⟨((flatP (P ++ I86)).drop (24 * (i + j))).toArray⟩, .slice A88 ((dsAt (P ++ I86) (24 * (i + j))).length) c88] := p25.at hs (by decide)
      replace hs := p25.st hs
      refine q_val rfl rfl ?_
      refine g_extract rfl ((p25.ne rfl).trans s67) rfl ?_
      intro a26 p26
      have s72 : a26.eval (.tmp 72) = .slice G88 ((frs (P ++ I86) c0 i j).length) g88 := p26.at hs (by decide)
      replace hs := p26.st hs
      refine q_eff rfl rfl ?_
      refine g_storeB rfl (((p26.ne rfl).trans ((p25.ne rfl).trans ((p24.ne rfl).trans ((p23.ne rfl).trans ((p22.ne rfl).trans (p21.ne rfl)))))).trans s4) ((p26.ne rfl).trans s71) Try.sizeOf28 rfl rfl h_q9 rfl ?_
      intro w90 W_w90
      replace h_q9 := W_w90.here
      replace h_q15 := keep_wrote h_q15 W_w90 n_q9_q15
      replace o_os := own_wrote o_os W_w90 d_os_q9
      replace o_e := own_wrote o_e W_w90 d_e_q9
      replace o_g := own_wrote o_g W_w90 d_g_q9
      replace o_x86 := own_wrote o_x86 W_w90 d_x86_q9
      replace o_x88 := own_wrote o_x88 W_w90 d_x88_q9
      replace o_f88 := own_wrote o_f88 W_w90 d_f88_q9
      replace hB := below_wrote hB hB.size W_w90 g_q9.le
      clear W_w90
      refine q_val rfl rfl ?_
      refine g_assign rfl s72 ?_
      intro a27 p27
      have s14 : a27.eval (.tmp 14) = .slice G88 ((frs (P ++ I86) c0 i j).length) g88 := p27.at hs (by decide)
      replace hs := p27.st hs
      refine wpList_nil ?_
      replace s2 : a27.eval (.tmp 2) = .bool false := ((p27.ne rfl).trans ((p26.ne rfl).trans ((p25.ne rfl).trans ((p24.ne rfl).trans ((p23.ne rfl).trans ((p22.ne rfl).trans (p21.ne rfl))))))).trans s2
      replace s3 : a27.eval (.tmp 3) = .slice O os.length co := ((p27.ne rfl).trans ((p26.ne rfl).trans ((p25.ne rfl).trans ((p24.ne rfl).trans ((p23.ne rfl).trans ((p22.ne rfl).trans (p21.ne rfl))))))).trans s3
      replace s4 : a27.eval (.tmp 4) = .pointer (some ⟨q9, 0, none⟩) := ((p27.ne rfl).trans ((p26.ne rfl).trans ((p25.ne rfl).trans ((p24.ne rfl).trans ((p23.ne rfl).trans ((p22.ne rfl).trans (p21.ne rfl))))))).trans s4
      replace s5 : a27.eval (.tmp 5) = .pointer (some ⟨q15, 0, none⟩) := ((p27.ne rfl).trans ((p26.ne rfl).trans ((p25.ne rfl).trans ((p24.ne rfl).trans ((p23.ne rfl).trans ((p22.ne rfl).trans (p21.ne rfl))))))).trans s5
      replace s6 : a27.eval (.tmp 6) = .slice G ng cg := ((p27.ne rfl).trans ((p26.ne rfl).trans ((p25.ne rfl).trans ((p24.ne rfl).trans ((p23.ne rfl).trans ((p22.ne rfl).trans (p21.ne rfl))))))).trans s6
      refine hK85 _ _ ?_
      clear hK85
      refine wp_seq_k fun K91 hK91 => ?_
      have hfl := frs_len (P ++ I86) c0 j i
      have hgt := congrArg List.length e1
      rw [List.length_append] at hgt
      refine wp_region_lit ?_
      refine q_val rfl rfl ?_
      refine g_loadB rfl s5 Try.isAgg42 Try.sizeOf42 rfl h_q15 ?_
      intro a28 p28
      have s74 : a28.eval (.tmp 74) = .agg #[.int .i64 u.ch, .int .i64 u.nx, .bool u.sy, .string ⟨(u.rest).toArray⟩, .int .i64 u.lost] := p28.at hs (by decide)
      replace hs := p28.st hs
      refine q_val rfl rfl ?_
      refine g_move rfl ((p28.ne rfl).trans s14) ?_
      intro a29 p29
      have s75 : a29.eval (.tmp 75) = .slice G88 ((frs (P ++ I86) c0 i j).length) g88 := p29.at hs (by decide)
      replace hs := p29.st hs
      refine q_val rfl rfl ?_
      refine g_call rfl rfl Try.call13 (arr2 ((p29.ne rfl).trans s74) s75) ?_
      refine (pushFrames_any (u := u) _ _ _ (frs (P ++ I86) c0 i j) _ hps1 rfl (by omega) (Rd.of_own o_f88)).mono ?_
      rintro e w93 ⟨A92, c92, rfl, o_x92, hb92⟩
      refine ⟨_, rfl, ?_⟩
      have d_x92_q9 := own_ne_box o_x92 (lt_of_block h_q9)
      have d_x92_q15 := own_ne_box o_x92 (lt_of_block h_q15)
      have m_os_x92 := own_ne_row o_os o_x92 (Nat.le_refl _)
      have m_x92_os := ne_row_symm m_os_x92
      have m_e_x92 := own_ne_row o_e o_x92 (Nat.le_refl _)
      have m_x92_e := ne_row_symm m_e_x92
      have m_g_x92 := own_ne_row o_g o_x92 (Nat.le_refl _)
      have m_x92_g := ne_row_symm m_g_x92
      have m_x86_x92 := own_ne_row o_x86 o_x92 (Nat.le_refl _)
      have m_x92_x86 := ne_row_symm m_x86_x92
      have m_x88_x92 := own_ne_row o_x88 o_x92 (Nat.le_refl _)
      have m_x92_x88 := ne_row_symm m_x88_x92
      have m_f88_x92 := own_ne_row o_f88 o_x92 (Nat.le_refl _)
      have m_x92_f88 := ne_row_symm m_f88_x92
      have g_x92 : ∀ b, (A92 : Option Addr).map (·.block) = some b → w.heap.size ≤ b := fun b h => Nat.le_trans hB.size (own_row o_x92 b h).1
      replace o_x92 := own_base (base := w.heap.size) o_x92 hB.size
      replace h_q9 := keep_below h_q9 hb92
      replace h_q15 := keep_below h_q15 hb92
      replace o_os := own_below o_os hb92
      replace o_e := own_below o_e hb92
      replace o_g := own_below o_g hb92
      replace o_x86 := own_below o_x86 hb92
      replace o_x88 := own_below o_x88 hb92
      replace o_f88 := own_below o_f88 hb92
      replace hB := hB.trans (hb92.mono hB.size)
      clear hb92
      intro a30 p30
      have s76 : a30.eval (.tmp 76) = .tuple #[.agg #[.int .i64 ((pushUs u (frs (P ++ I86) c0 i j)).ch), .int .i64 ((pushUs u (frs (P ++ I86) c0 i j)).nx), .bool ((pushUs u (frs (P ++ I86) c0 i j)).sy), .string ⟨((pushUs u (frs (P ++ I86) c0 i j)).rest).toArray⟩, .int .i64 ((pushUs u (frs (P ++ I86) c0 i j)).lost)], .slice A92 ((pushLs u (frs (P ++ I86) c0 i j)).length) c92] := p30.at hs (by decide)
      replace hs := p30.st hs
      refine q_val rfl rfl ?_
      refine g_move rfl s76 ?_
      intro a31 p31
      have s73 : a31.eval (.tmp 73) = .tuple #[.agg #[.int .i64 ((pushUs u (frs (P ++ I86) c0 i j)).ch), .int .i64 ((pushUs u (frs (P ++ I86) c0 i j)).nx), .bool ((pushUs u (frs (P ++ I86) c0 i j)).sy), .string ⟨((pushUs u (frs (P ++ I86) c0 i j)).rest).toArray⟩, .int .i64 ((pushUs u (frs (P ++ I86) c0 i j)).lost)], .slice A92 ((pushLs u (frs (P ++ I86) c0 i j)).length) c92] := p31.at hs (by decide)
      replace hs := p31.st hs
      refine q_val rfl rfl ?_
      refine g_extract rfl s73 rfl ?_
      intro a32 p32
      have s77 : a32.eval (.tmp 77) = .agg #[.int .i64 ((pushUs u (frs (P ++ I86) c0 i j)).ch), .int .i64 ((pushUs u (frs (P ++ I86) c0 i j)).nx), .bool ((pushUs u (frs (P ++ I86) c0 i j)).sy), .string ⟨((pushUs u (frs (P ++ I86) c0 i j)).rest).toArray⟩, .int .i64 ((pushUs u (frs (P ++ I86) c0 i j)).lost)] := p32.at hs (by decide)
      replace hs := p32.st hs
      refine q_val rfl rfl ?_
      refine g_extract rfl ((p32.ne rfl).trans s73) rfl ?_
      intro a33 p33
      have s78 : a33.eval (.tmp 78) = .slice A92 ((pushLs u (frs (P ++ I86) c0 i j)).length) c92 := p33.at hs (by decide)
      replace hs := p33.st hs
      refine q_val rfl rfl ?_
      refine g_alloc rfl Try.zeroValue42 rfl ?_
      intro q94 w95 N_q94
      have n_q9_q94 := N_q94.ne ⟨lt_of_block h_q9⟩
      have n_q94_q9 := n_q9_q94.symm
      have n_q15_q94 := N_q94.ne ⟨lt_of_block h_q15⟩
      have n_q94_q15 := n_q15_q94.symm
      have d_os_q94 := own_ne_new o_os N_q94
      have d_e_q94 := own_ne_new o_e N_q94
      have d_g_q94 := own_ne_new o_g N_q94
      have d_x86_q94 := own_ne_new o_x86 N_q94
      have d_x88_q94 := own_ne_new o_x88 N_q94
      have d_f88_q94 := own_ne_new o_f88 N_q94
      have d_x92_q94 := own_ne_new o_x92 N_q94
      have g_q94 : GeB w.heap.size q94 := ⟨Nat.le_trans hB.size N_q94.lo⟩
      replace h_q9 := keep_below h_q9 N_q94.below
      replace h_q15 := keep_below h_q15 N_q94.below
      replace o_os := own_below o_os N_q94.below
      replace o_e := own_below o_e N_q94.below
      replace o_g := own_below o_g N_q94.below
      replace o_x86 := own_below o_x86 N_q94.below
      replace o_x88 := own_below o_x88 N_q94.below
      replace o_f88 := own_below o_f88 N_q94.below
      replace o_x92 := own_below o_x92 N_q94.below
      replace hB := below_new hB hB.size N_q94
      have h_q94 := N_q94.here
      clear N_q94
      intro a34 p34
      have s15 : a34.eval (.tmp 15) = .pointer (some ⟨q94, 0, none⟩) := p34.at hs (by decide)
      replace hs := p34.st hs
      refine q_eff rfl rfl ?_
      refine g_storeB rfl s15 (((p34.ne rfl).trans (p33.ne rfl)).trans s77) Try.sizeOf42 rfl rfl h_q94 rfl ?_
      intro w96 W_w96
      replace h_q9 := keep_wrote h_q9 W_w96 n_q94_q9
      replace h_q15 := keep_wrote h_q15 W_w96 n_q94_q15
      replace h_q94 := W_w96.here
      replace o_os := own_wrote o_os W_w96 d_os_q94
      replace o_e := own_wrote o_e W_w96 d_e_q94
      replace o_g := own_wrote o_g W_w96 d_g_q94
      replace o_x86 := own_wrote o_x86 W_w96 d_x86_q94
      replace o_x88 := own_wrote o_x88 W_w96 d_x88_q94
      replace o_f88 := own_wrote o_f88 W_w96 d_f88_q94
      replace o_x92 := own_wrote o_x92 W_w96 d_x92_q94
      replace hB := below_wrote hB hB.size W_w96 g_q94.le
      clear W_w96
      refine q_val rfl rfl ?_
      refine g_assign rfl ((p34.ne rfl).trans s78) ?_
      intro a35 p35
      have s16 : a35.eval (.tmp 16) = .slice A92 ((pushLs u (frs (P ++ I86) c0 i j)).length) c92 := p35.at hs (by decide)
      replace hs := p35.st hs
      refine wpList_nil ?_
      replace s2 : a35.eval (.tmp 2) = .bool false := ((p35.ne rfl).trans ((p34.ne rfl).trans ((p33.ne rfl).trans ((p32.ne rfl).trans ((p31.ne rfl).trans ((p30.ne rfl).trans ((p29.ne rfl).trans (p28.ne rfl)))))))).trans s2
      replace s3 : a35.eval (.tmp 3) = .slice O os.length co := ((p35.ne rfl).trans ((p34.ne rfl).trans ((p33.ne rfl).trans ((p32.ne rfl).trans ((p31.ne rfl).trans ((p30.ne rfl).trans ((p29.ne rfl).trans (p28.ne rfl)))))))).trans s3
      replace s4 : a35.eval (.tmp 4) = .pointer (some ⟨q9, 0, none⟩) := ((p35.ne rfl).trans ((p34.ne rfl).trans ((p33.ne rfl).trans ((p32.ne rfl).trans ((p31.ne rfl).trans ((p30.ne rfl).trans ((p29.ne rfl).trans (p28.ne rfl)))))))).trans s4
      replace s6 : a35.eval (.tmp 6) = .slice G ng cg := ((p35.ne rfl).trans ((p34.ne rfl).trans ((p33.ne rfl).trans ((p32.ne rfl).trans ((p31.ne rfl).trans ((p30.ne rfl).trans ((p29.ne rfl).trans (p28.ne rfl)))))))).trans s6
      replace s15 : a35.eval (.tmp 15) = .pointer (some ⟨q94, 0, none⟩) := (p35.ne rfl).trans s15
      refine hK91 _ _ ?_
      clear hK91
      refine wp_seq_k fun K97 hK97 => ?_
      refine wp_region_lit ?_
      refine q_val rfl rfl ?_
      refine g_move rfl s6 ?_
      intro a36 p36
      have s79 : a36.eval (.tmp 79) = .slice G ng cg := p36.at hs (by decide)
      replace hs := p36.st hs
      refine q_val rfl rfl ?_
      refine g_move rfl ((p36.ne rfl).trans s16) ?_
      intro a37 p37
      have s80 : a37.eval (.tmp 80) = .slice A92 ((pushLs u (frs (P ++ I86) c0 i j)).length) c92 := p37.at hs (by decide)
      replace hs := p37.st hs
      refine q_val rfl rfl ?_
      refine g_append (n' := ng + ((pushLs u (frs (P ++ I86) c0 i j)).length)) (ys := (got ++ (pushLs u (frs (P ++ I86) c0 i j))).flatMap cPacket) w.heap.size (.agg #[.int .i64 0, .int .i64 0, .string ⟨#[]⟩]) 3 32 rfl ((p37.ne rfl).trans s79) s80 Try.underlying24 infoPacket rfl (by decide) o_g (own_nil o_x92) (Rd.of_own o_x92) (flatPacket_one _) (by omega) hB.size (by decide) (by omega) (by first | rfl | simp [List.flatMap_append] | (simp [List.flatMap_append, cPacket]; done)) ?_
      intro A_r98 c_r98 w99 P_r98
      have d_r98_q9 := P_r98.ne d_g_q9 (lt_of_block h_q9)
      have d_r98_q15 := P_r98.ne d_g_q15 (lt_of_block h_q15)
      have d_r98_q94 := P_r98.ne d_g_q94 (lt_of_block h_q94)
      have m_os_r98 := P_r98.row m_os_g o_os
      have m_r98_os := ne_row_symm m_os_r98
      have m_e_r98 := P_r98.row m_e_g o_e
      have m_r98_e := ne_row_symm m_e_r98
      have m_x86_r98 := P_r98.row m_x86_g o_x86
      have m_r98_x86 := ne_row_symm m_x86_r98
      have m_x88_r98 := P_r98.row m_x88_g o_x88
      have m_r98_x88 := ne_row_symm m_x88_r98
      have m_f88_r98 := P_r98.row m_f88_g o_f88
      have m_r98_f88 := ne_row_symm m_f88_r98
      have m_x92_r98 := P_r98.row m_x92_g o_x92
      have m_r98_x92 := ne_row_symm m_x92_r98
      have g_r98 := P_r98.ge g_g hB.size
      replace h_q9 := keep_grown h_q9 P_r98.grown d_g_q9
      replace h_q15 := keep_grown h_q15 P_r98.grown d_g_q15
      replace h_q94 := keep_grown h_q94 P_r98.grown d_g_q94
      replace o_os := own_grown o_os P_r98.grown m_os_g
      replace o_e := own_grown o_e P_r98.grown m_e_g
      replace o_x86 := own_grown o_x86 P_r98.grown m_x86_g
      replace o_x88 := own_grown o_x88 P_r98.grown m_x88_g
      replace o_f88 := own_grown o_f88 P_r98.grown m_f88_g
      replace o_x92 := own_grown o_x92 P_r98.grown m_x92_g
      replace hB := below_grown hB hB.size P_r98.grown g_g
      have o_r98 := P_r98.own
      clear P_r98
      intro a38 p38
      have s81 : a38.eval (.tmp 81) = .slice A_r98 (ng + ((pushLs u (frs (P ++ I86) c0 i j)).length)) c_r98 := p38.at hs (by decide)
      replace hs := p38.st hs
      refine q_val rfl rfl ?_
      refine g_assign rfl s81 ?_
      intro a39 p39
      have s6 : a39.eval (.tmp 6) = .slice A_r98 (ng + ((pushLs u (frs (P ++ I86) c0 i j)).length)) c_r98 := p39.at hs (by decide)
      replace hs := p39.st hs
      refine wpList_nil ?_
      replace s2 : a39.eval (.tmp 2) = .bool false := ((p39.ne rfl).trans ((p38.ne rfl).trans ((p37.ne rfl).trans (p36.ne rfl)))).trans s2
      replace s3 : a39.eval (.tmp 3) = .slice O os.length co := ((p39.ne rfl).trans ((p38.ne rfl).trans ((p37.ne rfl).trans (p36.ne rfl)))).trans s3
      replace s4 : a39.eval (.tmp 4) = .pointer (some ⟨q9, 0, none⟩) := ((p39.ne rfl).trans ((p38.ne rfl).trans ((p37.ne rfl).trans (p36.ne rfl)))).trans s4
      replace s15 : a39.eval (.tmp 15) = .pointer (some ⟨q94, 0, none⟩) := ((p39.ne rfl).trans ((p38.ne rfl).trans ((p37.ne rfl).trans (p36.ne rfl)))).trans s15
      refine hK97 _ _ ?_
      clear hK97
      refine wp_seq_k fun K100 hK100 => ?_
      have hgt2 : (got ++ pushLs u (frs (P ++ I86) c0 i j)).length = os.length := by rw [e1]
      refine wp_region_lit ?_
      refine q_val rfl rfl ?_
      refine g_move rfl s6 ?_
      intro a40 p40
      have s82 : a40.eval (.tmp 82) = .slice A_r98 (ng + ((pushLs u (frs (P ++ I86) c0 i j)).length)) c_r98 := p40.at hs (by decide)
      replace hs := p40.st hs
      refine q_val rfl rfl ?_
      refine g_move rfl ((p40.ne rfl).trans s3) ?_
      intro a41 p41
      have s83 : a41.eval (.tmp 83) = .slice O os.length co := p41.at hs (by decide)
      replace hs := p41.st hs
      refine q_val rfl rfl ?_
      refine g_call rfl rfl Try.call15 (arr2 ((p41.ne rfl).trans s82) s83) ?_
      refine (samePackets_same _ _ _ _ _ _ (got ++ (pushLs u (frs (P ++ I86) c0 i j))) os _ (by simp only [List.length_append, List.length_cons, List.length_nil, List.length_drop, List.length_take] <;> omega) rfl e1.symm (by omega) (Rd.of_own o_r98) (Rd.of_own o_os)).mono ?_
      rintro e w102 ⟨rfl, hb101⟩
      refine ⟨_, rfl, ?_⟩
      replace h_q9 := keep_below h_q9 hb101
      replace h_q15 := keep_below h_q15 hb101
      replace h_q94 := keep_below h_q94 hb101
      replace o_os := own_below o_os hb101
      replace o_e := own_below o_e hb101
      replace o_x86 := own_below o_x86 hb101
      replace o_x88 := own_below o_x88 hb101
      replace o_f88 := own_below o_f88 hb101
      replace o_x92 := own_below o_x92 hb101
      replace o_r98 := own_below o_r98 hb101
      replace hB := hB.trans (hb101.mono hB.size)
      clear hb101
      intro a42 p42
      have s84 : a42.eval (.tmp 84) = .bool true := p42.at hs (by decide)
      replace hs := p42.st hs
      refine q_val rfl rfl ?_
      refine g_move rfl s84 ?_
      intro a43 p43
      have s85 : a43.eval (.tmp 85) = .bool true := p43.at hs (by decide)
      replace hs := p43.st hs
      refine q_take rfl rfl s85 rfl ?_
      refine g_field (r := 2) rfl (((p43.ne rfl).trans ((p42.ne rfl).trans ((p41.ne rfl).trans (p40.ne rfl)))).trans s4) Try.underlying28 rfl (fun w => Try.sizeOf9 w) rfl rfl ?_
      intro a44 p44
      have s86 : a44.eval (.tmp 86) = .pointer (some ⟨q9, 2, none⟩) := p44.at hs (by decide)
      replace hs := p44.st hs
      refine q_take rfl rfl ((p44.ne rfl).trans s85) rfl ?_
      refine g_load rfl s86 Try.isAgg9 (box_cell h_q9 rfl) ?_
      intro a45 p45
      have s87 : a45.eval (.tmp 87) = .string ⟨((flatP (P ++ I86)).drop (24 * (i + j))).toArray⟩ := p45.at hs (by decide)
      replace hs := p45.st hs
      refine q_take rfl rfl (((p45.ne rfl).trans (p44.ne rfl)).trans s85) rfl ?_
      refine g_eqlS rfl s87 rfl ?_
      intro a46 p46
      have s88 : a46.eval (.tmp 88) = .bool true := (p46.at hs (by decide)).trans (congrArg Value.bool (decide_eq_true (List.drop_eq_nil_of_le (by omega))))
      replace hs := p46.st hs
      refine q_val rfl rfl ?_
      refine g_pick_t rfl (((p46.ne rfl).trans ((p45.ne rfl).trans (p44.ne rfl))).trans s85) s88 ?_
      intro a47 p47
      have s89 : a47.eval (.tmp 89) = .bool true := p47.at hs (by decide)
      replace hs := p47.st hs
      refine q_val rfl rfl ?_
      refine g_move rfl s89 ?_
      intro a48 p48
      have s90 : a48.eval (.tmp 90) = .bool true := p48.at hs (by decide)
      replace hs := p48.st hs
      refine q_take rfl rfl s90 rfl ?_
      refine g_field (r := 3) rfl (((p48.ne rfl).trans ((p47.ne rfl).trans ((p46.ne rfl).trans ((p45.ne rfl).trans ((p44.ne rfl).trans ((p43.ne rfl).trans ((p42.ne rfl).trans ((p41.ne rfl).trans (p40.ne rfl))))))))).trans s4) Try.underlying28 rfl (fun w => Try.sizeOf26 w) rfl rfl ?_
      intro a49 p49
      have s91 : a49.eval (.tmp 91) = .pointer (some ⟨q9, 3, none⟩) := p49.at hs (by decide)
      replace hs := p49.st hs
      refine q_take rfl rfl ((p49.ne rfl).trans s90) rfl ?_
      refine g_load rfl s91 Try.isAgg26 (box_cell h_q9 rfl) ?_
      intro a50 p50
      have s92 : a50.eval (.tmp 92) = .slice A88 ((dsAt (P ++ I86) (24 * (i + j))).length) c88 := p50.at hs (by decide)
      replace hs := p50.st hs
      refine q_take rfl rfl (((p50.ne rfl).trans (p49.ne rfl)).trans s90) rfl ?_
      refine g_len (e := _) rfl Try.underlying26 s92 ?_
      intro a51 p51
      have s93 : a51.eval (.tmp 93) = .int .i64 (((dsAt (P ++ I86) (24 * (i + j))).length : Nat) : Int) := p51.at hs (by decide)
      replace hs := p51.st hs
      refine q_take rfl rfl (((p51.ne rfl).trans ((p50.ne rfl).trans (p49.ne rfl))).trans s90) rfl ?_
      refine g_eql rfl s93 rfl ?_
      intro a52 p52
      have s94 : a52.eval (.tmp 94) = .bool true := (p52.at hs (by decide)).trans (congrArg Value.bool (decide_eq_true (by rw [e5]; rfl)))
      replace hs := p52.st hs
      refine q_val rfl rfl ?_
      refine g_pick_t rfl (((p52.ne rfl).trans ((p51.ne rfl).trans ((p50.ne rfl).trans (p49.ne rfl)))).trans s90) s94 ?_
      intro a53 p53
      have s95 : a53.eval (.tmp 95) = .bool true := p53.at hs (by decide)
      replace hs := p53.st hs
      refine q_val rfl rfl ?_
      refine g_move rfl s95 ?_
      intro a54 p54
      have s96 : a54.eval (.tmp 96) = .bool true := p54.at hs (by decide)
      replace hs := p54.st hs
      refine q_take rfl rfl s96 rfl ?_
      refine g_field (r := 4) rfl (((p54.ne rfl).trans ((p53.ne rfl).trans ((p52.ne rfl).trans ((p51.ne rfl).trans ((p50.ne rfl).trans ((p49.ne rfl).trans ((p48.ne rfl).trans ((p47.ne rfl).trans ((p46.ne rfl).trans ((p45.ne rfl).trans ((p44.ne rfl).trans ((p43.ne rfl).trans ((p42.ne rfl).trans ((p41.ne rfl).trans (p40.ne rfl))))))))))))))).trans s15) Try.underlying42 rfl (fun w => Try.sizeOf3 w) rfl rfl ?_
      intro a55 p55
      have s97 : a55.eval (.tmp 97) = .pointer (some ⟨q94, 4, none⟩) := p55.at hs (by decide)
      replace hs := p55.st hs
      refine q_take rfl rfl ((p55.ne rfl).trans s96) rfl ?_
      refine g_load rfl s97 Try.isAgg3 (box_cell h_q94 rfl) ?_
      intro a56 p56
      have s98 : a56.eval (.tmp 98) = .int .i64 ((pushUs u (frs (P ++ I86) c0 i j)).lost) := p56.at hs (by decide)
      replace hs := p56.st hs
      refine q_take rfl rfl (((p56.ne rfl).trans (p55.ne rfl)).trans s96) rfl ?_
      refine g_eql rfl s98 rfl ?_
      intro a57 p57
      have s99 : a57.eval (.tmp 99) = .bool true := (p57.at hs (by decide)).trans (congrArg Value.bool (decide_eq_true e2))
      replace hs := p57.st hs
      refine q_val rfl rfl ?_
      refine g_pick_t rfl (((p57.ne rfl).trans ((p56.ne rfl).trans (p55.ne rfl))).trans s96) s99 ?_
      intro a58 p58
      have s100 : a58.eval (.tmp 100) = .bool true := p58.at hs (by decide)
      replace hs := p58.st hs
      refine q_val rfl rfl ?_
      refine g_move rfl s100 ?_
      intro a59 p59
      have s101 : a59.eval (.tmp 101) = .bool true := p59.at hs (by decide)
      replace hs := p59.st hs
      refine q_take rfl rfl s101 rfl ?_
      refine g_field (r := 3) rfl (((p59.ne rfl).trans ((p58.ne rfl).trans ((p57.ne rfl).trans ((p56.ne rfl).trans ((p55.ne rfl).trans ((p54.ne rfl).trans ((p53.ne rfl).trans ((p52.ne rfl).trans ((p51.ne rfl).trans ((p50.ne rfl).trans ((p49.ne rfl).trans ((p48.ne rfl).trans ((p47.ne rfl).trans ((p46.ne rfl).trans ((p45.ne rfl).trans ((p44.ne rfl).trans ((p43.ne rfl).trans ((p42.ne rfl).trans ((p41.ne rfl).trans (p40.ne rfl)))))))))))))))))))).trans s15) Try.underlying42 rfl (fun w => Try.sizeOf9 w) rfl rfl ?_
      intro a60 p60
      have s102 : a60.eval (.tmp 102) = .pointer (some ⟨q94, 3, none⟩) := p60.at hs (by decide)
      replace hs := p60.st hs
      refine q_take rfl rfl ((p60.ne rfl).trans s101) rfl ?_
      refine g_load rfl s102 Try.isAgg9 (box_cell h_q94 rfl) ?_
      intro a61 p61
      have s103 : a61.eval (.tmp 103) = .string ⟨((pushUs u (frs (P ++ I86) c0 i j)).rest).toArray⟩ := p61.at hs (by decide)
      replace hs := p61.st hs
      refine q_take rfl rfl (((p61.ne rfl).trans (p60.ne rfl)).trans s101) rfl ?_
      refine g_eqlS rfl s103 rfl ?_
      intro a62 p62
      have s104 : a62.eval (.tmp 104) = .bool true := (p62.at hs (by decide)).trans (congrArg Value.bool (decide_eq_true e3))
      replace hs := p62.st hs
      refine q_val rfl rfl ?_
      refine g_pick_t rfl (((p62.ne rfl).trans ((p61.ne rfl).trans (p60.ne rfl))).trans s101) s104 ?_
      intro a63 p63
      have s105 : a63.eval (.tmp 105) = .bool true := p63.at hs (by decide)
      replace hs := p63.st hs
      refine q_val rfl rfl ?_
      refine g_move rfl s105 ?_
      intro a64 p64
      have s106 : a64.eval (.tmp 106) = .bool true := p64.at hs (by decide)
      replace hs := p64.st hs
      refine q_take rfl rfl s106 rfl ?_
      refine g_loadB rfl (((p64.ne rfl).trans ((p63.ne rfl).trans ((p62.ne rfl).trans ((p61.ne rfl).trans ((p60.ne rfl).trans ((p59.ne rfl).trans ((p58.ne rfl).trans ((p57.ne rfl).trans ((p56.ne rfl).trans ((p55.ne rfl).trans ((p54.ne rfl).trans ((p53.ne rfl).trans ((p52.ne rfl).trans ((p51.ne rfl).trans ((p50.ne rfl).trans ((p49.ne rfl).trans ((p48.ne rfl).trans ((p47.ne rfl).trans ((p46.ne rfl).trans ((p45.ne rfl).trans ((p44.ne rfl).trans ((p43.ne rfl).trans ((p42.ne rfl).trans ((p41.ne rfl).trans (p40.ne rfl))))))))))))))))))))))))).trans s4) Try.isAgg28 Try.sizeOf28 rfl h_q9 ?_
      intro a65 p65
      have s107 : a65.eval (.tmp 107) = .agg #[.int .i64 0, .int .i64 ((c0 + ((i + j : Nat) : Int)) % 256), .string ⟨((flatP (P ++ I86)).drop (24 * (i + j))).toArray⟩, .slice A88 ((dsAt (P ++ I86) (24 * (i + j))).length) c88] := p65.at hs (by decide)
      replace hs := p65.st hs
      refine q_take rfl rfl ((p65.ne rfl).trans s106) rfl ?_
      refine g_call rfl rfl Try.call31 (arr1 s107) ?_
      refine (packerOk_yes _ (pkr_at (P := (P ++ I86)) (n := 24 * (i + j)) (by omega) (by omega) (by omega)) (by unfold Txt; rw [List.length_drop]; omega) rfl (by rw [e5]; decide) (Rd.of_own o_x88)).mono ?_
      rintro e w104 ⟨rfl, hb103⟩
      refine ⟨_, rfl, ?_⟩
      replace h_q9 := keep_below h_q9 hb103
      replace h_q15 := keep_below h_q15 hb103
      replace h_q94 := keep_below h_q94 hb103
      replace o_os := own_below o_os hb103
      replace o_e := own_below o_e hb103
      replace o_x86 := own_below o_x86 hb103
      replace o_x88 := own_below o_x88 hb103
      replace o_f88 := own_below o_f88 hb103
      replace o_x92 := own_below o_x92 hb103
      replace o_r98 := own_below o_r98 hb103
      replace hB := hB.trans (hb103.mono hB.size)
      clear hb103
      intro a66 p66
      have s108 : a66.eval (.tmp 108) = .bool true := p66.at hs (by decide)
      replace hs := p66.st hs
      refine q_val rfl rfl ?_
      refine g_pick_t rfl (((p66.ne rfl).trans (p65.ne rfl)).trans s106) s108 ?_
      intro a67 p67
      have s109 : a67.eval (.tmp 109) = .bool true := p67.at hs (by decide)
      replace hs := p67.st hs
      refine q_val rfl rfl ?_
      refine g_move rfl s109 ?_
      intro a68 p68
      have s110 : a68.eval (.tmp 110) = .bool true := p68.at hs (by decide)
      replace hs := p68.st hs
      refine q_take rfl rfl s110 rfl ?_
      refine g_loadB rfl (((p68.ne rfl).trans ((p67.ne rfl).trans ((p66.ne rfl).trans ((p65.ne rfl).trans ((p64.ne rfl).trans ((p63.ne rfl).trans ((p62.ne rfl).trans ((p61.ne rfl).trans ((p60.ne rfl).trans ((p59.ne rfl).trans ((p58.ne rfl).trans ((p57.ne rfl).trans ((p56.ne rfl).trans ((p55.ne rfl).trans ((p54.ne rfl).trans ((p53.ne rfl).trans ((p52.ne rfl).trans ((p51.ne rfl).trans ((p50.ne rfl).trans ((p49.ne rfl).trans ((p48.ne rfl).trans ((p47.ne rfl).trans ((p46.ne rfl).trans ((p45.ne rfl).trans ((p44.ne rfl).trans ((p43.ne rfl).trans ((p42.ne rfl).trans ((p41.ne rfl).trans (p40.ne rfl))))))))))))))))))))))))))))).trans s15) Try.isAgg42 Try.sizeOf42 rfl h_q94 ?_
      intro a69 p69
      have s111 : a69.eval (.tmp 111) = .agg #[.int .i64 ((pushUs u (frs (P ++ I86) c0 i j)).ch), .int .i64 ((pushUs u (frs (P ++ I86) c0 i j)).nx), .bool ((pushUs u (frs (P ++ I86) c0 i j)).sy), .string ⟨((pushUs u (frs (P ++ I86) c0 i j)).rest).toArray⟩, .int .i64 ((pushUs u (frs (P ++ I86) c0 i j)).lost)] := p69.at hs (by decide)
      replace hs := p69.st hs
      refine q_take rfl rfl ((p69.ne rfl).trans s110) rfl ?_
      refine g_call rfl rfl Try.call16 (arr1 s111) ?_
      refine (unpackerOk_yes (u := (pushUs u (frs (P ++ I86) c0 i j))) _ e4).mono ?_
      rintro e w106 ⟨rfl, hb105⟩
      refine ⟨_, rfl, ?_⟩
      replace h_q9 := keep_below h_q9 hb105
      replace h_q15 := keep_below h_q15 hb105
      replace h_q94 := keep_below h_q94 hb105
      replace o_os := own_below o_os hb105
      replace o_e := own_below o_e hb105
      replace o_x86 := own_below o_x86 hb105
      replace o_x88 := own_below o_x88 hb105
      replace o_f88 := own_below o_f88 hb105
      replace o_x92 := own_below o_x92 hb105
      replace o_r98 := own_below o_r98 hb105
      replace hB := hB.trans (hb105.mono hB.size)
      clear hb105
      intro a70 p70
      have s112 : a70.eval (.tmp 112) = .bool true := p70.at hs (by decide)
      replace hs := p70.st hs
      refine q_val rfl rfl ?_
      refine g_pick_t rfl (((p70.ne rfl).trans (p69.ne rfl)).trans s110) s112 ?_
      intro a71 p71
      have s113 : a71.eval (.tmp 113) = .bool true := p71.at hs (by decide)
      replace hs := p71.st hs
      refine q_val rfl rfl ?_
      refine g_assign rfl s113 ?_
      intro a72 p72
      have s2 : a72.eval (.tmp 2) = .bool true := p72.at hs (by decide)
      replace hs := p72.st hs
      refine wpList_nil ?_
      refine hK100 _ _ ?_
      clear hK100
      refine wp_ret ?_
      try dsimp only [Exit.then, Exit.inBlock]
      refine ret1 hs Try.results6 (res_tmp s2) ?_
      exact ⟨rfl, hB⟩

/-! ### The row's step, written by a program of ours (frame.py) -/
namespace fnFramesWholeDone
open Go.ChangeShapes Go.WideShapes Go.ChangeAt
open Go.ChangeMaps (open_string)
theorem own : ownKnob Try.prog.godebug = none := by kernel_rfl
theorem laidOut : laidOutB Try.prog = true := by kernel_rfl
set_option maxRecDepth 100000 in
theorem lifted (os : Os) (started : os.Started) (H : Type) (enc : TypeId × Value → H) :
    ReturnsInHanded {} Try.checked os 6 .any (Rows.fnFramesWholeSpec.pre6 enc Try.prog Try.f6 Rows.fnFramesWholeRow.domain false) (Rows.fnFramesWholeSpec.post enc Try.prog Try.f6 false true false false) := by
  refine returnsInHanded_of_change (C := Try.checked) own started (by kernel_rfl) Try.func6
    (ChangeSpec.witness6 (enc := enc) (C := Try.checked) false ⟨#[], #[.slice none 0 0], []⟩ 8 (by kernel_rfl) (by kernel_rfl) (by kernel_rfl) (by kernel_rfl)) ?_
  intro W base args ds gs before hval0 hW hcnd _
  have hval : ∀ (j : Nat) t v, Try.f6.params[j]? = some t → args[j]? = some v → Value.okWide Try.prog W .any base t v := hval0
  have hW' := hW
  obtain ⟨p, q, hA0, hV, rfl, hfz, hnd⟩ := hW
  have hA : DataW.TrodAll enc Try.prog W 0 (fun _ => true) true Try.f6.params.toList args.toList ds p := hA0
  rw [Try.params6] at hA hval
  obtain ⟨v0, vs0, d0, ds0, p0, q0, hargs, rfl, rfl, h0, r0⟩ := trodAll_cons hA
  obtain ⟨rfl, rfl, rfl⟩ := trodAll_nil r0
  obtain rfl : args = #[v0] := by cases args; simp_all
  obtain ⟨rfl, rfl⟩ := trodVars_none hV
  have k0 := h0
  have lt0 : ∀ x ∈ p0, x.block < W.heap.size := by obtain ⟨m, hm⟩ := k0; exact DataW.trod_lt m _ _ _ hm
  obtain ⟨A0, n0, c0, rs0, hv0, hlen0, hnc0, hcm0, hrd0, _⟩ := open_slice_of cB (fun _ => True) 1 cB_len Try.underlying22 (by kernel_rfl) (by decide) (fun _ _ _ hh => el_byte Try.underlying5 hh) h0.choose_spec
  obtain ⟨_, _, _, rfl⟩ := okWide_slice Try.underlying22 (hval 0 22 v0 rfl rfl)
  simp only [Value.cells, List.cons.injEq, Value.slice.injEq, and_true] at hv0
  obtain ⟨rfl, rfl, rfl⟩ := hv0
  clear hA0 hval0
  refine (fnFramesWhole_walk (w := W) _ _ _ rs0 hlen0 hnc0 hcm0 hrd0).mono fun e W' ⟨he, bel⟩ => ?_
  subst he
  exact ⟨_, rfl, _, _, _, [], _, [], hW', trodAll_mk1 (shut_bool Try.underlying4 _), (trodAll_cons_mk (Below.trod laidOut (by kernel_rfl) (of_decide_eq_true (by kernel_rfl)) k0 bel lt0) trodAll_mk0), rfl, bel.frame _, fun h => by cases h⟩
theorem proved : Rows.FnFramesWholeSaid :=
  OpenClaim.holds_of_wide 6 Try.f6 rfl rfl rfl rfl rfl rfl rfl ⟨rfl, rfl, rfl, rfl, rfl⟩ rfl rfl rfl rfl rfl (by kernel_rfl) Try.func6 (by kernel_rfl)
    (of_decide_eq_true (by kernel_rfl)) (by unfold Func.isWrapper; first | (rw [if_pos (by decide +kernel)]; kernel_rfl) | (rw [if_neg (by decide +kernel)]; exact ⟨rfl, rfl⟩))
    (fun os started H enc _ => lifted os started H enc)
end fnFramesWholeDone
end Go.Proofs.Ytmcgmiapbdoocaa
