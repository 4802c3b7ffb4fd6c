/- Whatever frames are lost: the packets that come out are exactly those all of whose bytes lie in frames that arrived. No condition. -/
import Derived.Test.YtmcgmiapbdoocaaFrmAt
import Derived.Test.YtmcgmiapbdoocaaFrmSame
namespace Go.Proofs.Ytmcgmiapbdoocaa
open Go.RowKit

theorem infoT : (Try.prog.info? 4).map (fun i => (i.zero, i.size, i.bytes)) = some (some (.bool false), 1, 1) := by kernel_rfl
/-- Which frames arrive. -/
def tOf (bs : List UInt8) (k : Nat) : Bool := !decide (((atN bs k % 4 : Nat) : Int) = 0)
def sAt (os : List EPacket) (k : Nat) : Nat := (flatP (os.take k)).length
theorem sAt_le (os : List EPacket) {k : Nat} (hk : k < os.length) : sAt os k + (4 + os[k].f2.length) ≤ (flatP os).length := by
  have h : (flatP os).length = (flatP (os.take k ++ os[k] :: os.drop (k + 1))).length := by rw [List.getElem_cons_drop, List.take_append_drop]
  rw [flatP_append, List.length_append, flatP_cons, List.length_append, pkB_len] at h
  unfold sAt
  omega
theorem sAt_44 {os : List EPacket} (hD : DrawnPks os) (k : Nat) : sAt os k ≤ 44 * k := by
  induction k with
  | zero => simp [sAt, flatP]
  | succ k ih =>
    by_cases hk : k < os.length
    · unfold sAt at ih ⊢
      rw [List.take_succ_eq_append_getElem hk, flatP_append, flatP_one, List.length_append, pkB_len]
      have := (pkOk_parts (hD _ (List.getElem_mem hk)).1).2.2
      omega
    · unfold sAt at ih ⊢
      rw [List.take_of_length_le (by omega)] at ih ⊢
      omega
def fiL (os : List EPacket) (k : Nat) : List Int := (List.range k).map fun j => ((sAt os j : Nat) : Int)
theorem fiL_snoc (os : List EPacket) (k : Nat) : fiL os k ++ [(((flatP (os.take k)).drop 0).length : Int)] = fiL os (k + 1) := by
  unfold fiL sAt
  rw [List.range_succ, List.map_append]
  rfl
theorem fiL_len (os : List EPacket) (k : Nat) : (fiL os k).length = k := by simp [fiL]
theorem fiL_at (os : List EPacket) (m k : Nat) (h : k < (fiL os m).length) : (fiL os m)[k] = ((sAt os k : Nat) : Int) := by simp [fiL]
def tsL (t : Nat → Bool) (k : Nat) : List Bool := (List.range k).map t
theorem tsL_snoc (t : Nat → Bool) (k : Nat) : tsL t k ++ [t k] = tsL t (k + 1) := by
  unfold tsL
  rw [List.range_succ, List.map_append]
  rfl
theorem tsL_len (t : Nat → Bool) (k : Nat) : (tsL t k).length = k := by simp [tsL]
theorem tsL_at (t : Nat → Bool) (m k : Nat) (h : k < (tsL t m).length) : (tsL t m)[k] = t k := by simp [tsL]
/-- All frames from a on that are before i. -/
def whT (t : Nat → Bool) (a i : Nat) : Bool := (List.range (i - a)).all fun j => t (a + j)
theorem whT_next (t : Nat → Bool) {a i : Nat} (h : a ≤ i) : whT t a (i + 1) = (whT t a i && t i) := by
  unfold whT
  rw [show i + 1 - a = (i - a) + 1 from by omega, List.range_succ, List.all_append]
  simp [show a + (i - a) = i from by omega]
theorem whT_no (t : Nat → Bool) {a i : Nat} (h : a ≤ i) (h0 : whT t a i = false) : whT t a (i + 1) = false := by rw [whT_next t h, h0]; rfl
theorem whT_yes (t : Nat → Bool) {a i : Nat} (h : a ≤ i) (h0 : whT t a i = true) : whT t a (i + 1) = t i := by rw [whT_next t h, h0]; rfl
theorem whT_end (t : Nat → Bool) {s l i : Nat} (h : i = (s + l - 1) / 24 + 1) : whT t (s / 24) i = whB t s l := by subst h; rfl
theorem want_next (t : Nat → Bool) {os : List EPacket} {k : Nat} (hk : k < os.length) : wantL t 0 (os.take (k + 1)) = wantL t 0 (os.take k) ++ if whB t (sAt os k) (4 + os[k].f2.length) then [os[k]] else [] := by
  rw [List.take_succ_eq_append_getElem hk, wantL_append]
  congr 1
  show (if whB t (0 + (flatP (os.take k)).length) (pkB os[k]).length then [os[k]] else []) ++ [] = _
  rw [List.append_nil, Nat.zero_add, pkB_len, Nat.add_comm]
  rfl
theorem want_yes (t : Nat → Bool) {os : List EPacket} {k : Nat} (hk : k < os.length) (h : whB t (sAt os k) (4 + os[k].f2.length) = true) : wantL t 0 (os.take k) ++ [os[k]] = wantL t 0 (os.take (k + 1)) := by rw [want_next t hk, if_pos h]
theorem want_no (t : Nat → Bool) {os : List EPacket} {k : Nat} (hk : k < os.length) (h : whB t (sAt os k) (4 + os[k].f2.length) = false) : wantL t 0 (os.take k) = wantL t 0 (os.take (k + 1)) := by rw [want_next t hk, h]; simp
theorem kept_yes {t : Nat → Bool} {P : List EPacket} {N k : Nat} {fr : List EFrame} (hfr : fr = frs P 0 0 N) (hk : k < fr.length) (h : t k = true) : keptF t P 0 0 k ++ [fr[k]] = keptF t P 0 0 (k + 1) := by
  subst hfr
  rw [keptF_snoc, Nat.zero_add, h, if_pos rfl, frs_at]
  simp only [Nat.zero_add]
theorem kept_no {t : Nat → Bool} {P : List EPacket} {k : Nat} (h : t k = false) : keptF t P 0 0 k = keptF t P 0 0 (k + 1) := by
  rw [keptF_snoc, Nat.zero_add, h]
  simp
set_option maxRecDepth 100000 in
set_option maxHeartbeats 8000000 in
theorem fnFramesLost_walk {w : World} (A : Option Addr) (n c : Nat) (bs : List UInt8) (hlen : bs.length = n) (hnc : n ≤ c) (hcm : c ≤ maxLen) (hr_cc : Rd w 1 A n (bs.flatMap cB)) :
    Calls Try.prog 3 #[.slice A n c] w fun e w' => e = .returned (.bool true) ∧ Below w.heap.size w w' := by
  have hcm2 := hcm
  unfold maxLen at hcm2
  refine enter 154 Try.func3 rfl rfl (Nat.le_of_ble_eq_true rfl) ?_
  intro a0 hs hargs
  have s0 : a0.eval (.tmp 0) = .slice A n c := hargs 0 _ rfl
  clear hargs
  have hB : Below w.heap.size w w := Below.refl _ _
  refine wp_seq_k fun K1 hK1 => ?_
  refine wp_region_lit ?_
  refine q_val rfl rfl ?_
  refine g_assign rfl rfl ?_
  intro a1 p1
  have s2 : a1.eval (.tmp 2) = .bool false := p1.at hs (by decide)
  replace hs := p1.st hs
  refine wpList_nil ?_
  replace s0 : a1.eval (.tmp 0) = .slice A n c := (p1.ne rfl).trans s0
  refine hK1 _ _ ?_
  clear hK1
  refine wp_seq_k fun K2 hK2 => ?_
  refine wp_seq_k fun K3 hK3 => ?_
  refine wp_region_lit ?_
  refine q_val rfl rfl ?_
  refine g_move rfl s0 ?_
  intro a2 p2
  have s20 : a2.eval (.tmp 20) = .slice A n c := p2.at hs (by decide)
  replace hs := p2.st hs
  refine q_val rfl rfl ?_
  refine g_call rfl rfl Try.call7 (arr1 s20) ?_
  refine (big_any _ _ _ _ (by omega)).mono ?_
  rintro e w' ⟨rfl, rfl⟩
  refine ⟨_, rfl, ?_⟩
  intro a3 p3
  have s21 : a3.eval (.tmp 21) = .bool (decide (1048576 < ((n : Nat) : Int))) := p3.at hs (by decide)
  replace hs := p3.st hs
  refine wpList_nil ?_
  replace s0 : a3.eval (.tmp 0) = .slice A n c := ((p3.ne rfl).trans (p2.ne rfl)).trans s0
  replace s2 : a3.eval (.tmp 2) = .bool false := ((p3.ne rfl).trans (p2.ne rfl)).trans s2
  refine hK3 _ _ ?_
  clear hK3
  by_cases hbig : 1048576 < ((n : Nat) : Int)
  · replace s21 := s21.trans (congrArg Value.bool (decide_eq_true hbig))
    replace s21 : a3.eval (.tmp 21) = .bool true := s21
    refine c_true s21 ?_
    refine wp_seq_k fun K4 hK4 => ?_
    refine wp_region_lit ?_
    refine q_val rfl rfl ?_
    refine g_assign rfl rfl ?_
    intro a4 p4
    have s2 : a4.eval (.tmp 2) = .bool true := p4.at hs (by decide)
    replace hs := p4.st hs
    refine wpList_nil ?_
    replace s0 : a4.eval (.tmp 0) = .slice A n c := (p4.ne rfl).trans s0
    refine hK4 _ _ ?_
    clear hK4
    refine wp_ret ?_
    try dsimp only [Exit.then, Exit.inBlock]
    refine ret1 hs Try.results3 (res_tmp s2) ?_
    exact ⟨rfl, hB⟩
  · replace s21 := s21.trans (congrArg Value.bool (decide_eq_false hbig))
    replace s21 : a3.eval (.tmp 21) = .bool false := s21
    refine c_false s21 ?_
    refine wp_skip ?_
    refine hK2 _ _ ?_
    clear hK2
    refine wp_seq_k fun K5 hK5 => ?_
    refine wp_region_lit ?_
    refine q_val rfl rfl ?_
    refine g_move rfl s0 ?_
    intro a4 p4
    have s22 : a4.eval (.tmp 22) = .slice A n c := p4.at hs (by decide)
    replace hs := p4.st hs
    refine q_val rfl rfl ?_
    refine g_call rfl rfl Try.call8 (arr1 s22) ?_
    refine (drawPackets_any A n c bs _ hlen (by omega) (hr_cc.below hB)).mono ?_
    rintro e w7 ⟨os, O, co, rfl, o_os, hD, hos1, hos2, hb6⟩
    refine ⟨_, rfl, ?_⟩
    have g_os : ∀ b, (O : Option Addr).map (·.block) = some b → w.heap.size ≤ b := fun b h => Nat.le_trans hB.size (own_row o_os b h).1
    replace o_os := own_base (base := w.heap.size) o_os hB.size
    replace hB := hB.trans (hb6.mono hB.size)
    clear hb6
    intro a5 p5
    have s23 : a5.eval (.tmp 23) = .slice O os.length co := p5.at hs (by decide)
    replace hs := p5.st hs
    refine q_val rfl rfl ?_
    refine g_assign rfl s23 ?_
    intro a6 p6
    have s3 : a6.eval (.tmp 3) = .slice O os.length co := p6.at hs (by decide)
    replace hs := p6.st hs
    refine wpList_nil ?_
    replace s0 : a6.eval (.tmp 0) = .slice A n c := ((p6.ne rfl).trans ((p5.ne rfl).trans (p4.ne rfl))).trans s0
    replace s2 : a6.eval (.tmp 2) = .bool false := ((p6.ne rfl).trans ((p5.ne rfl).trans (p4.ne rfl))).trans s2
    refine hK5 _ _ ?_
    clear hK5
    refine wp_seq_k fun K8 hK8 => ?_
    refine wp_region_lit ?_
    refine q_val rfl rfl ?_
    refine g_build (cells := #[.int .i64 0, .int .i64 0, .string ⟨#[]⟩, .slice none 0 0]) rfl (arrB0 ) (by kernel_rfl) ?_
    intro a7 p7
    have s24 : a7.eval (.tmp 24) = .agg #[.int .i64 0, .int .i64 0, .string ⟨#[]⟩, .slice none 0 0] := p7.at hs (by decide)
    replace hs := p7.st hs
    refine q_val rfl rfl ?_
    refine g_alloc rfl Try.zeroValue28 rfl ?_
    intro q9 w10 N_q9
    have d_os_q9 := own_ne_new o_os N_q9
    have g_q9 : GeB w.heap.size q9 := ⟨Nat.le_trans hB.size N_q9.lo⟩
    replace o_os := own_below o_os N_q9.below
    replace hB := below_new hB hB.size N_q9
    have h_q9 := N_q9.here
    clear N_q9
    intro a8 p8
    have s4 : a8.eval (.tmp 4) = .pointer (some ⟨q9, 0, none⟩) := p8.at hs (by decide)
    replace hs := p8.st hs
    refine q_eff rfl rfl ?_
    refine g_storeB rfl s4 ((p8.ne rfl).trans s24) Try.sizeOf28 rfl rfl h_q9 rfl ?_
    intro w11 W_w11
    replace h_q9 := W_w11.here
    replace o_os := own_wrote o_os W_w11 d_os_q9
    replace hB := below_wrote hB hB.size W_w11 g_q9.le
    clear W_w11
    refine wpList_nil ?_
    replace s0 : a8.eval (.tmp 0) = .slice A n c := ((p8.ne rfl).trans (p7.ne rfl)).trans s0
    replace s2 : a8.eval (.tmp 2) = .bool false := ((p8.ne rfl).trans (p7.ne rfl)).trans s2
    replace s3 : a8.eval (.tmp 3) = .slice O os.length co := ((p8.ne rfl).trans (p7.ne rfl)).trans s3
    refine hK8 _ _ ?_
    clear hK8
    refine wp_seq_k fun K12 hK12 => ?_
    refine wp_region_lit ?_
    refine q_val rfl rfl ?_
    refine g_bslice0 rfl Try.underlying26 Try.sizeOf3 ?_
    intro q13 w14 N_q13
    have n_q9_q13 := N_q13.ne ⟨lt_of_block h_q9⟩
    have n_q13_q9 := n_q9_q13.symm
    have d_os_q13 := own_ne_new o_os N_q13
    have g_q13 : GeB w.heap.size q13 := ⟨Nat.le_trans hB.size N_q13.lo⟩
    replace h_q9 := keep_below h_q9 N_q13.below
    replace o_os := own_below o_os N_q13.below
    replace hB := below_new hB hB.size N_q13
    have h_q13 := N_q13.here
    clear N_q13
    intro a9 p9
    have s25 : a9.eval (.tmp 25) = .slice (some ⟨q13, 0, none⟩) 0 0 := p9.at hs (by decide)
    replace hs := p9.st hs
    refine q_val rfl rfl ?_
    refine g_assign rfl s25 ?_
    intro a10 p10
    have s5 : a10.eval (.tmp 5) = .slice (some ⟨q13, 0, none⟩) 0 0 := p10.at hs (by decide)
    replace hs := p10.st hs
    refine wpList_nil ?_
    replace s0 : a10.eval (.tmp 0) = .slice A n c := ((p10.ne rfl).trans (p9.ne rfl)).trans s0
    replace s2 : a10.eval (.tmp 2) = .bool false := ((p10.ne rfl).trans (p9.ne rfl)).trans s2
    replace s3 : a10.eval (.tmp 3) = .slice O os.length co := ((p10.ne rfl).trans (p9.ne rfl)).trans s3
    replace s4 : a10.eval (.tmp 4) = .pointer (some ⟨q9, 0, none⟩) := ((p10.ne rfl).trans (p9.ne rfl)).trans s4
    refine hK12 _ _ ?_
    clear hK12
    refine wp_seq_k fun K15 hK15 => ?_
    refine wp_seq_k fun K16 hK16 => ?_
    refine wp_region_lit ?_
    refine q_val rfl rfl ?_
    refine g_assign rfl rfl ?_
    intro a11 p11
    have s6 : a11.eval (.tmp 6) = .int .i64 0 := p11.at hs (by decide)
    replace hs := p11.st hs
    refine wpList_nil ?_
    replace s0 : a11.eval (.tmp 0) = .slice A n c := (p11.ne rfl).trans s0
    replace s2 : a11.eval (.tmp 2) = .bool false := (p11.ne rfl).trans s2
    replace s3 : a11.eval (.tmp 3) = .slice O os.length co := (p11.ne rfl).trans s3
    replace s4 : a11.eval (.tmp 4) = .pointer (some ⟨q9, 0, none⟩) := (p11.ne rfl).trans s4
    replace s5 : a11.eval (.tmp 5) = .slice (some ⟨q13, 0, none⟩) 0 0 := (p11.ne rfl).trans s5
    refine hK16 _ _ ?_
    clear hK16
    refine wp_block ?_
    have o_e : w14.ownsRow w.heap.size 3 1 (.slice none 0 0) 0 ([].flatMap cI) := World.ownsRow_nil _ _ _ _
    have g_e : ∀ b, (none : Option Addr).map (·.block) = some b → w.heap.size ≤ b := fun b h => by cases h
    have d_e_q9 : (none : Option Addr).map (·.block) ≠ some q9 := fun h => by cases h
    have d_e_q13 : (none : Option Addr).map (·.block) ≠ some q13 := fun h => by cases h
    have m_os_e : ∀ b, (O : Option Addr).map (·.block) = some b → (none : Option Addr).map (·.block) ≠ some b := fun b _ h => by cases h
    have m_e_os := ne_row_symm m_os_e
    have o_fi : w14.ownsRow w.heap.size 3 1 (.slice (some ⟨q13, 0, none⟩) 0 0) 0 ([].flatMap cI) := own_box_row (base := w.heap.size) (xs := []) h_q13 g_q13.le rfl (by decide) rfl
    have g_fi : ∀ b, (some ⟨q13, 0, none⟩ : Option Addr).map (·.block) = some b → w.heap.size ≤ b := ge_box g_q13.le
    have d_fi_q9 : (some ⟨q13, 0, none⟩ : Option Addr).map (·.block) ≠ some q9 := neb_map n_q13_q9
    have m_os_fi : ∀ b, (O : Option Addr).map (·.block) = some b → (some ⟨q13, 0, none⟩ : Option Addr).map (·.block) ≠ some b := row_ne_box d_os_q13
    have m_fi_os := ne_row_symm m_os_fi
    have m_e_fi : ∀ b, (none : Option Addr).map (·.block) = some b → (some ⟨q13, 0, none⟩ : Option Addr).map (·.block) ≠ some b := row_ne_box d_e_q13
    have m_fi_e := ne_row_symm m_e_fi
    refine wp_loop (fun a wr => ∃ (k : Nat) (E : Option Addr) (ce : Nat) (FI : Option Addr) (cf : Nat), (St 154 a) ∧ (a.eval (.tmp 0) = .slice A n c) ∧ (a.eval (.tmp 2) = .bool false) ∧ (a.eval (.tmp 3) = .slice O os.length co) ∧ (a.eval (.tmp 4) = .pointer (some ⟨q9, 0, none⟩)) ∧ (a.eval (.tmp 5) = .slice FI k cf) ∧ (a.eval (.tmp 6) = .int .i64 ((k : Nat) : Int)) ∧ (Below w.heap.size w wr) ∧ (wr.heap[q9]? = some (.cells #[.int .i64 0, .int .i64 0, .string ⟨((flatP (os.take k)).drop 0).toArray⟩, .slice E ((dsAt (os.take k) 0).length) ce] 28 (0, 0))) ∧ (wr.ownsRow w.heap.size 32 3 (.slice O os.length co) os.length (os.flatMap cPacket)) ∧ (wr.ownsRow w.heap.size 3 1 (.slice E ((dsAt (os.take k) 0).length) ce) ((dsAt (os.take k) 0).length) ((dsAt (os.take k) 0).flatMap cI)) ∧ (wr.ownsRow w.heap.size 3 1 (.slice FI k cf) k ((fiL os k).flatMap cI)) ∧ ((E : Option Addr).map (·.block) ≠ some q9) ∧ (∀ b, (O : Option Addr).map (·.block) = some b → (E : Option Addr).map (·.block) ≠ some b) ∧ (∀ b, (E : Option Addr).map (·.block) = some b → (O : Option Addr).map (·.block) ≠ some b) ∧ (∀ b, (FI : Option Addr).map (·.block) = some b → (E : Option Addr).map (·.block) ≠ some b) ∧ (∀ b, (E : Option Addr).map (·.block) = some b → w.heap.size ≤ b) ∧ ((FI : Option Addr).map (·.block) ≠ some q9) ∧ (∀ b, (O : Option Addr).map (·.block) = some b → (FI : Option Addr).map (·.block) ≠ some b) ∧ (∀ b, (FI : Option Addr).map (·.block) = some b → (O : Option Addr).map (·.block) ≠ some b) ∧ (∀ b, (E : Option Addr).map (·.block) = some b → (FI : Option Addr).map (·.block) ≠ some b) ∧ (∀ b, (FI : Option Addr).map (·.block) = some b → w.heap.size ≤ b) ∧ (k ≤ os.length)) (fun a _ => os.length - (intOf (a.eval (.tmp 6))).toNat) (⟨0, none, 0, (some ⟨q13, 0, none⟩), 0, hs, s0, s2, s3, s4, s5, s6, hB, h_q9, o_os, o_e, o_fi, d_e_q9, m_os_e, m_e_os, m_fi_e, g_e, d_fi_q9, m_os_fi, m_fi_os, m_e_fi, g_fi, Nat.zero_le _⟩) ?_
    intro a12 w18 hI
    obtain ⟨k, E, ce, FI, cf, hs, s0, s2, s3, s4, s5, s6, hB, h_q9, o_os, o_e, o_fi, d_e_q9, m_os_e, m_e_os, m_fi_e, g_e, d_fi_q9, m_os_fi, m_fi_os, m_e_fi, g_fi, hk⟩ := hI
    have mu19 := s6
    refine wp_seq_k fun K20 hK20 => ?_
    refine wp_seq_k fun K21 hK21 => ?_
    refine wp_region_lit ?_
    refine q_val rfl rfl ?_
    refine g_move rfl s6 ?_
    intro a13 p13
    have s26 : a13.eval (.tmp 26) = .int .i64 ((k : Nat) : Int) := p13.at hs (by decide)
    replace hs := p13.st hs
    refine q_val rfl rfl ?_
    refine g_move rfl ((p13.ne rfl).trans s3) ?_
    intro a14 p14
    have s27 : a14.eval (.tmp 27) = .slice O os.length co := p14.at hs (by decide)
    replace hs := p14.st hs
    refine q_val rfl rfl ?_
    refine g_len (e := _) rfl Try.underlying24 s27 ?_
    intro a15 p15
    have s28 : a15.eval (.tmp 28) = .int .i64 ((os.length : Nat) : Int) := p15.at hs (by decide)
    replace hs := p15.st hs
    refine q_val rfl rfl ?_
    refine g_lss rfl (((p15.ne rfl).trans (p14.ne rfl)).trans s26) s28 ?_
    intro a16 p16
    have s29 : a16.eval (.tmp 29) = .bool (decide (((k : Nat) : Int) < ((os.length : Nat) : Int))) := p16.at hs (by decide)
    replace hs := p16.st hs
    refine wpList_nil ?_
    replace s0 : a16.eval (.tmp 0) = .slice A n c := ((p16.ne rfl).trans ((p15.ne rfl).trans ((p14.ne rfl).trans (p13.ne rfl)))).trans s0
    replace s2 : a16.eval (.tmp 2) = .bool false := ((p16.ne rfl).trans ((p15.ne rfl).trans ((p14.ne rfl).trans (p13.ne rfl)))).trans s2
    replace s3 : a16.eval (.tmp 3) = .slice O os.length co := ((p16.ne rfl).trans ((p15.ne rfl).trans ((p14.ne rfl).trans (p13.ne rfl)))).trans s3
    replace s4 : a16.eval (.tmp 4) = .pointer (some ⟨q9, 0, none⟩) := ((p16.ne rfl).trans ((p15.ne rfl).trans ((p14.ne rfl).trans (p13.ne rfl)))).trans s4
    replace s5 : a16.eval (.tmp 5) = .slice FI k cf := ((p16.ne rfl).trans ((p15.ne rfl).trans ((p14.ne rfl).trans (p13.ne rfl)))).trans s5
    replace s6 : a16.eval (.tmp 6) = .int .i64 ((k : Nat) : Int) := ((p16.ne rfl).trans ((p15.ne rfl).trans ((p14.ne rfl).trans (p13.ne rfl)))).trans s6
    refine hK21 _ _ ?_
    clear hK21
    by_cases hc22 : ((k : Nat) : Int) < ((os.length : Nat) : Int)
    · replace s29 := s29.trans (congrArg Value.bool (decide_eq_true hc22))
      replace s29 : a16.eval (.tmp 29) = .bool true := s29
      refine c_true s29 ?_
      refine wp_skip ?_
      refine hK20 _ _ ?_
      clear hK20
      refine wp_seq_k fun K23 hK23 => ?_
      refine wp_block ?_
      refine wp_seq_k fun K24 hK24 => ?_
      have hlt : k < os.length := by omega
      have hxok : pkOk os[k] = true := (hD _ (List.getElem_mem hlt)).1
      have hs44 := sAt_44 hD k
      have hpb : (flatP (os.take k)).length + 44 ≤ 0 + 5000 := by unfold sAt at hs44; omega
      have hdl : ((flatP (os.take k)).drop 0).length = sAt os k := rfl
      have hel := dsAt_len (os.take k) 0
      rw [List.length_take] at hel
      refine wp_region_lit ?_
      refine q_val rfl rfl ?_
      refine g_move rfl s5 ?_
      intro a17 p17
      have s32 : a17.eval (.tmp 32) = .slice FI k cf := p17.at hs (by decide)
      replace hs := p17.st hs
      refine q_val rfl rfl ?_
      refine g_field (r := 2) rfl ((p17.ne rfl).trans s4) Try.underlying28 rfl (fun w => Try.sizeOf9 w) rfl rfl ?_
      intro a18 p18
      have s33 : a18.eval (.tmp 33) = .pointer (some ⟨q9, 2, none⟩) := p18.at hs (by decide)
      replace hs := p18.st hs
      refine q_val rfl rfl ?_
      refine g_load rfl s33 Try.isAgg9 (box_cell h_q9 rfl) ?_
      intro a19 p19
      have s34 : a19.eval (.tmp 34) = .string ⟨((flatP (os.take k)).drop 0).toArray⟩ := p19.at hs (by decide)
      replace hs := p19.st hs
      refine q_val rfl rfl ?_
      refine g_lenS rfl Try.underlying9 s34 ?_
      intro a20 p20
      have s35 : a20.eval (.tmp 35) = .int .i64 ((((flatP (os.take k)).drop 0).length : Nat) : Int) := p20.at hs (by decide)
      replace hs := p20.st hs
      refine q_val rfl rfl ?_
      refine g_bslice1 (cs := #[.int .i64 ((((flatP (os.take k)).drop 0).length : Nat) : Int)]) rfl Try.underlying26 Try.sizeOf3 Try.zeroValue3 s35 (by kernel_rfl) rfl (by decide) ?_
      intro q25 w26 N_q25
      have n_q9_q25 := N_q25.ne ⟨lt_of_block h_q9⟩
      have n_q25_q9 := n_q9_q25.symm
      have d_os_q25 := own_ne_new o_os N_q25
      have d_e_q25 := own_ne_new o_e N_q25
      have d_fi_q25 := own_ne_new o_fi N_q25
      have g_q25 : GeB w.heap.size q25 := ⟨Nat.le_trans hB.size N_q25.lo⟩
      replace h_q9 := keep_below h_q9 N_q25.below
      replace o_os := own_below o_os N_q25.below
      replace o_e := own_below o_e N_q25.below
      replace o_fi := own_below o_fi N_q25.below
      replace hB := below_new hB hB.size N_q25
      have h_q25 := N_q25.here
      clear N_q25
      intro a21 p21
      have s36 : a21.eval (.tmp 36) = .slice (some ⟨q25, 0, none⟩) 1 1 := p21.at hs (by decide)
      replace hs := p21.st hs
      refine q_val rfl rfl ?_
      refine g_append (n' := k + 1) (ys := ((fiL os k) ++ [((((flatP (os.take k)).drop 0).length : Nat) : Int)]).flatMap cI) w.heap.size (.int .i64 0) 1 8 rfl (((p21.ne rfl).trans ((p20.ne rfl).trans ((p19.ne rfl).trans (p18.ne rfl)))).trans s32) s36 Try.underlying26 infoI64 rfl (by decide) o_fi (fun h => by cases h) (rd_box (xs := ([((((flatP (os.take k)).drop 0).length : Nat) : Int)]).flatMap cI) h_q25 rfl rfl) (flatI_one _) (by omega) hB.size (by decide) (by omega) (by first | rfl | simp [List.flatMap_append] | (simp [List.flatMap_append, cI]; done)) ?_
      intro A_r27 c_r27 w28 P_r27
      have d_r27_q9 := P_r27.ne d_fi_q9 (lt_of_block h_q9)
      have d_r27_q25 := P_r27.ne d_fi_q25 (lt_of_block h_q25)
      have m_os_r27 := P_r27.row m_os_fi o_os
      have m_r27_os := ne_row_symm m_os_r27
      have m_e_r27 := P_r27.row m_e_fi o_e
      have m_r27_e := ne_row_symm m_e_r27
      have g_r27 := P_r27.ge g_fi hB.size
      replace h_q9 := keep_grown h_q9 P_r27.grown d_fi_q9
      replace h_q25 := keep_grown h_q25 P_r27.grown d_fi_q25
      replace o_os := own_grown o_os P_r27.grown m_os_fi
      replace o_e := own_grown o_e P_r27.grown m_e_fi
      replace hB := below_grown hB hB.size P_r27.grown g_fi
      have o_r27 := P_r27.own
      clear P_r27
      intro a22 p22
      have s37 : a22.eval (.tmp 37) = .slice A_r27 (k + 1) c_r27 := p22.at hs (by decide)
      replace hs := p22.st hs
      refine q_val rfl rfl ?_
      refine g_assign rfl s37 ?_
      intro a23 p23
      have s5 : a23.eval (.tmp 5) = .slice A_r27 (k + 1) c_r27 := p23.at hs (by decide)
      replace hs := p23.st hs
      refine wpList_nil ?_
      replace s0 : a23.eval (.tmp 0) = .slice A n c := ((p23.ne rfl).trans ((p22.ne rfl).trans ((p21.ne rfl).trans ((p20.ne rfl).trans ((p19.ne rfl).trans ((p18.ne rfl).trans (p17.ne rfl))))))).trans s0
      replace s2 : a23.eval (.tmp 2) = .bool false := ((p23.ne rfl).trans ((p22.ne rfl).trans ((p21.ne rfl).trans ((p20.ne rfl).trans ((p19.ne rfl).trans ((p18.ne rfl).trans (p17.ne rfl))))))).trans s2
      replace s3 : a23.eval (.tmp 3) = .slice O os.length co := ((p23.ne rfl).trans ((p22.ne rfl).trans ((p21.ne rfl).trans ((p20.ne rfl).trans ((p19.ne rfl).trans ((p18.ne rfl).trans (p17.ne rfl))))))).trans s3
      replace s4 : a23.eval (.tmp 4) = .pointer (some ⟨q9, 0, none⟩) := ((p23.ne rfl).trans ((p22.ne rfl).trans ((p21.ne rfl).trans ((p20.ne rfl).trans ((p19.ne rfl).trans ((p18.ne rfl).trans (p17.ne rfl))))))).trans s4
      replace s6 : a23.eval (.tmp 6) = .int .i64 ((k : Nat) : Int) := ((p23.ne rfl).trans ((p22.ne rfl).trans ((p21.ne rfl).trans ((p20.ne rfl).trans ((p19.ne rfl).trans ((p18.ne rfl).trans (p17.ne rfl))))))).trans s6
      replace s29 : a23.eval (.tmp 29) = .bool true := ((p23.ne rfl).trans ((p22.ne rfl).trans ((p21.ne rfl).trans ((p20.ne rfl).trans ((p19.ne rfl).trans ((p18.ne rfl).trans (p17.ne rfl))))))).trans s29
      refine hK24 _ _ ?_
      clear hK24
      obtain ⟨b29, o30, hA31, hl_hc32, hc32⟩ := Rd.get cPacket_len (Rd.of_own o_os) rfl (i := k) (by omega)
      refine wp_drawn (n := 154) [8] [9] [] (fun k_ v_ wx => match k_ with | 0 => v_ = .agg #[.int .i64 0, .int .i64 0, .string ⟨((flatP (os.take k)).drop 0).toArray⟩, .slice E ((dsAt (os.take k) 0).length) ce] | 1 => v_ = .slice O os.length co | 2 => v_ = .int .i64 ((k : Nat) : Int) | 3 => v_ = .pointer (some ⟨b29, o30 + k * 3, none⟩) | 4 => v_ = .agg #[.int .i64 (os[k].f0), .int .i64 (os[k].f1), .string ⟨(os[k].f2).toArray⟩] | 5 => ∃ (A33 : Option Addr) (c33 : Nat), v_ = .tuple #[.agg #[.int .i64 0, .int .i64 0, .string ⟨((flatP (os.take (k + 1))).drop 0).toArray⟩, .slice A33 ((dsAt (os.take (k + 1)) 0).length) c33], .bool true] ∧ ((wx).ownsRow w28.heap.size 3 1 (.slice A33 ((dsAt (os.take (k + 1)) 0).length) c33) ((dsAt (os.take (k + 1)) 0).length) ((dsAt (os.take (k + 1)) 0).flatMap cI)) | 6 => ∃ (A_r34 : Option Addr) (c_r34 : Nat), v_ = .tuple #[.agg #[.int .i64 0, .int .i64 0, .string ⟨((flatP (os.take (k + 1))).drop 0).toArray⟩, .slice A_r34 ((dsAt (os.take (k + 1)) 0).length) c_r34], .bool true] ∧ ((wx).ownsRow w28.heap.size 3 1 (.slice A_r34 ((dsAt (os.take (k + 1)) 0).length) c_r34) ((dsAt (os.take (k + 1)) 0).length) ((dsAt (os.take (k + 1)) 0).flatMap cI)) | 7 => ∃ (A_r35 : Option Addr) (c_r35 : Nat), v_ = .agg #[.int .i64 0, .int .i64 0, .string ⟨((flatP (os.take (k + 1))).drop 0).toArray⟩, .slice A_r35 ((dsAt (os.take (k + 1)) 0).length) c_r35] ∧ ((wx).ownsRow w28.heap.size 3 1 (.slice A_r35 ((dsAt (os.take (k + 1)) 0).length) c_r35) ((dsAt (os.take (k + 1)) 0).length) ((dsAt (os.take (k + 1)) 0).flatMap cI)) | 8 => v_ = .bool true | _ => True) (by kernel_rfl) (by kernel_rfl) (by kernel_rfl) (by kernel_rfl) hs.size ?_ ?_ ?_
      · intro i v wa wb hb hr
        rcases i with _ | _ | _ | _ | _ | _ | _ | _ | _ | _ | i
        · exact hr
        · exact hr
        · exact hr
        · exact hr
        · exact hr
        · obtain ⟨A33, c33, hr, o_x33⟩ := hr; exact ⟨A33, c33, hr, own_below o_x33 hb⟩
        · obtain ⟨A_r34, c_r34, hr, o_r34⟩ := hr; exact ⟨A_r34, c_r34, hr, own_below o_r34 hb⟩
        · obtain ⟨A_r35, c_r35, hr, o_r35⟩ := hr; exact ⟨A_r35, c_r35, hr, own_below o_r35 hb⟩
        · exact hr
        · trivial
        · trivial
      · refine d_step rfl rfl ?_ (d_step rfl rfl ?_ (d_step rfl rfl ?_ (d_step rfl rfl ?_ (d_step rfl rfl ?_ (d_step rfl rfl ?_ (d_step rfl rfl ?_ (d_step rfl rfl ?_ (d_late rfl rfl ?_ (d_chain rfl (d_nil))))))))))
        · intro xv_ wx ρ hρ hwx hd K hK
          have e4 : ρ (.tmp 4) = .pointer (some ⟨q9, 0, none⟩) := (hρ.inn 4 rfl).trans s4
          have h_q9 := keep_below h_q9 hwx
          refine g_loadB rfl e4 Try.isAgg28 Try.sizeOf28 rfl h_q9 ?_
          exact hK _ _ (Below.refl _ _) rfl
        · intro xv_ wx ρ hρ hwx hd K hK
          have e3 : ρ (.tmp 3) = .slice O os.length co := (hρ.inn 3 rfl).trans s3
          refine g_move rfl e3 ?_
          exact hK _ _ (Below.refl _ _) rfl
        · intro xv_ wx ρ hρ hwx hd K hK
          have e6 : ρ (.tmp 6) = .int .i64 ((k : Nat) : Int) := (hρ.inn 6 rfl).trans s6
          refine g_move rfl e6 ?_
          exact hK _ _ (Below.refl _ _) rfl
        · intro xv_ wx ρ hρ hwx hd K hK
          obtain r1 : xv_ 1 = .slice O os.length co := hd 1 rfl
          have e40 : ρ (.tmp 40) = .slice O os.length co := (hρ.out 1 40 rfl (by rw [hs.size]; decide) rfl).trans r1
          obtain r2 : xv_ 2 = .int .i64 ((k : Nat) : Int) := hd 2 rfl
          have e41 : ρ (.tmp 41) = .int .i64 ((k : Nat) : Int) := (hρ.out 2 41 rfl (by rw [hs.size]; decide) rfl).trans r2
          refine g_index (r := o30 + k * 3) (k := k) rfl (e40.trans (slice_at hA31)) e41 Try.underlying24 (fun w => Try.sizeOf32 w) (by omega) rfl ?_
          exact hK _ _ (Below.refl _ _) rfl
        · intro xv_ wx ρ hρ hwx hd K hK
          obtain r3 : xv_ 3 = .pointer (some ⟨b29, o30 + k * 3, none⟩) := hd 3 rfl
          have e42 : ρ (.tmp 42) = .pointer (some ⟨b29, o30 + k * 3, none⟩) := (hρ.out 3 42 rfl (by rw [hs.size]; decide) rfl).trans r3
          have hc32 := elem_below hc32 hwx hl_hc32
          refine g_loadA (l := cPacket os[k]) rfl e42 Try.isAgg32 Try.sizeOf32 rfl (fun j u hu => by rw [Nat.add_assoc]; exact hc32 j u (by have := (List.getElem?_eq_some_iff.1 hu).1; exact this) hu) ?_
          exact hK _ _ (Below.refl _ _) rfl
        · intro xv_ wx ρ hρ hwx hd K hK
          obtain r0 : xv_ 0 = .agg #[.int .i64 0, .int .i64 0, .string ⟨((flatP (os.take k)).drop 0).toArray⟩, .slice E ((dsAt (os.take k) 0).length) ce] := hd 0 rfl
          have e39 : ρ (.tmp 39) = .agg #[.int .i64 0, .int .i64 0, .string ⟨((flatP (os.take k)).drop 0).toArray⟩, .slice E ((dsAt (os.take k) 0).length) ce] := (hρ.out 0 39 rfl (by rw [hs.size]; decide) rfl).trans r0
          obtain r4 : xv_ 4 = .agg #[.int .i64 (os[k].f0), .int .i64 (os[k].f1), .string ⟨(os[k].f2).toArray⟩] := hd 4 rfl
          have e43 : ρ (.tmp 43) = .agg #[.int .i64 (os[k].f0), .int .i64 (os[k].f1), .string ⟨(os[k].f2).toArray⟩] := (hρ.out 4 43 rfl (by rw [hs.size]; decide) rfl).trans r4
          refine g_call rfl (hρ.fn _) Try.call9 (arr2 e39 e43) ?_
          refine (packPacket_at (P := (os.take k)) (P' := (os.take (k + 1))) (n := 0) (x := os[k]) hxok (Nat.zero_le _) hpb ⟨by decide, by decide⟩ (by rw [List.length_take]; omega) (List.take_succ_eq_append_getElem hlt).symm rfl (own_nil o_e) ((Rd.of_own o_e).below hwx)).mono ?_
          rintro e wy ⟨A33, c33, rfl, o_x33, hb33⟩
          exact ⟨_, rfl, hK _ _ hb33 ⟨A33, c33, rfl, own_base o_x33 hwx.size⟩⟩
        · intro xv_ wx ρ hρ hwx hd K hK
          obtain ⟨A33, c33, r5, o_x33⟩ : ∃ (A33 : Option Addr) (c33 : Nat), xv_ 5 = .tuple #[.agg #[.int .i64 0, .int .i64 0, .string ⟨((flatP (os.take (k + 1))).drop 0).toArray⟩, .slice A33 ((dsAt (os.take (k + 1)) 0).length) c33], .bool true] ∧ ((wx).ownsRow w28.heap.size 3 1 (.slice A33 ((dsAt (os.take (k + 1)) 0).length) c33) ((dsAt (os.take (k + 1)) 0).length) ((dsAt (os.take (k + 1)) 0).flatMap cI)) := hd 5 rfl
          have e44 : ρ (.tmp 44) = .tuple #[.agg #[.int .i64 0, .int .i64 0, .string ⟨((flatP (os.take (k + 1))).drop 0).toArray⟩, .slice A33 ((dsAt (os.take (k + 1)) 0).length) c33], .bool true] := (hρ.out 5 44 rfl (by rw [hs.size]; decide) rfl).trans r5
          refine g_move rfl e44 ?_
          exact hK _ _ (Below.refl _ _) ⟨A33, c33, rfl, o_x33⟩
        · intro xv_ wx ρ hρ hwx hd K hK
          obtain ⟨A_r34, c_r34, r6, o_r34⟩ : ∃ (A_r34 : Option Addr) (c_r34 : Nat), xv_ 6 = .tuple #[.agg #[.int .i64 0, .int .i64 0, .string ⟨((flatP (os.take (k + 1))).drop 0).toArray⟩, .slice A_r34 ((dsAt (os.take (k + 1)) 0).length) c_r34], .bool true] ∧ ((wx).ownsRow w28.heap.size 3 1 (.slice A_r34 ((dsAt (os.take (k + 1)) 0).length) c_r34) ((dsAt (os.take (k + 1)) 0).length) ((dsAt (os.take (k + 1)) 0).flatMap cI)) := hd 6 rfl
          have e38 : ρ (.tmp 38) = .tuple #[.agg #[.int .i64 0, .int .i64 0, .string ⟨((flatP (os.take (k + 1))).drop 0).toArray⟩, .slice A_r34 ((dsAt (os.take (k + 1)) 0).length) c_r34], .bool true] := (hρ.out 6 38 rfl (by rw [hs.size]; decide) rfl).trans r6
          refine g_extract rfl e38 rfl ?_
          exact hK _ _ (Below.refl _ _) ⟨A_r34, c_r34, rfl, o_r34⟩
        · intro xv_ wx ρ hρ hwx hd
          obtain ⟨A_r34, c_r34, r6, o_r34⟩ : ∃ (A_r34 : Option Addr) (c_r34 : Nat), xv_ 6 = .tuple #[.agg #[.int .i64 0, .int .i64 0, .string ⟨((flatP (os.take (k + 1))).drop 0).toArray⟩, .slice A_r34 ((dsAt (os.take (k + 1)) 0).length) c_r34], .bool true] ∧ ((wx).ownsRow w28.heap.size 3 1 (.slice A_r34 ((dsAt (os.take (k + 1)) 0).length) c_r34) ((dsAt (os.take (k + 1)) 0).length) ((dsAt (os.take (k + 1)) 0).flatMap cI)) := hd 6 rfl rfl
          have e38 : ρ (.tmp 38) = .tuple #[.agg #[.int .i64 0, .int .i64 0, .string ⟨((flatP (os.take (k + 1))).drop 0).toArray⟩, .slice A_r34 ((dsAt (os.take (k + 1)) 0).length) c_r34], .bool true] := (hρ.out 6 38 rfl (by rw [hs.size]; decide) rfl).trans r6
          exact ⟨_, fun w' => l_extract rfl e38 rfl, rfl⟩
      · intro x0_ w36 hb_w36 hr0
        obtain r0 : x0_ 0 = .agg #[.int .i64 0, .int .i64 0, .string ⟨((flatP (os.take k)).drop 0).toArray⟩, .slice E ((dsAt (os.take k) 0).length) ce] := hr0 0 (by decide) rfl rfl
        obtain r1 : x0_ 1 = .slice O os.length co := hr0 1 (by decide) rfl rfl
        obtain r2 : x0_ 2 = .int .i64 ((k : Nat) : Int) := hr0 2 (by decide) rfl rfl
        obtain r3 : x0_ 3 = .pointer (some ⟨b29, o30 + k * 3, none⟩) := hr0 3 (by decide) rfl rfl
        obtain r4 : x0_ 4 = .agg #[.int .i64 (os[k].f0), .int .i64 (os[k].f1), .string ⟨(os[k].f2).toArray⟩] := hr0 4 (by decide) rfl rfl
        obtain ⟨A33, c33, r5, o_x33⟩ : ∃ (A33 : Option Addr) (c33 : Nat), x0_ 5 = .tuple #[.agg #[.int .i64 0, .int .i64 0, .string ⟨((flatP (os.take (k + 1))).drop 0).toArray⟩, .slice A33 ((dsAt (os.take (k + 1)) 0).length) c33], .bool true] ∧ ((w36).ownsRow w28.heap.size 3 1 (.slice A33 ((dsAt (os.take (k + 1)) 0).length) c33) ((dsAt (os.take (k + 1)) 0).length) ((dsAt (os.take (k + 1)) 0).flatMap cI)) := hr0 5 (by decide) rfl rfl
        obtain ⟨A_r34, c_r34, r6, o_r34⟩ : ∃ (A_r34 : Option Addr) (c_r34 : Nat), x0_ 6 = .tuple #[.agg #[.int .i64 0, .int .i64 0, .string ⟨((flatP (os.take (k + 1))).drop 0).toArray⟩, .slice A_r34 ((dsAt (os.take (k + 1)) 0).length) c_r34], .bool true] ∧ ((w36).ownsRow w28.heap.size 3 1 (.slice A_r34 ((dsAt (os.take (k + 1)) 0).length) c_r34) ((dsAt (os.take (k + 1)) 0).length) ((dsAt (os.take (k + 1)) 0).flatMap cI)) := hr0 6 (by decide) rfl rfl
        obtain ⟨A_r35, c_r35, r7, o_r35⟩ : ∃ (A_r35 : Option Addr) (c_r35 : Nat), x0_ 7 = .agg #[.int .i64 0, .int .i64 0, .string ⟨((flatP (os.take (k + 1))).drop 0).toArray⟩, .slice A_r35 ((dsAt (os.take (k + 1)) 0).length) c_r35] ∧ ((w36).ownsRow w28.heap.size 3 1 (.slice A_r35 ((dsAt (os.take (k + 1)) 0).length) c_r35) ((dsAt (os.take (k + 1)) 0).length) ((dsAt (os.take (k + 1)) 0).flatMap cI)) := hr0 7 (by decide) rfl rfl
        clear hr0
        have d_r35_q9 := own_ne_box o_r35 (lt_of_block h_q9)
        have d_r35_q25 := own_ne_box o_r35 (lt_of_block h_q25)
        have m_os_r35 := own_ne_row o_os o_r35 (Nat.le_refl _)
        have m_r35_os := ne_row_symm m_os_r35
        have m_e_r35 := own_ne_row o_e o_r35 (Nat.le_refl _)
        have m_r35_e := ne_row_symm m_e_r35
        have m_r27_r35 := own_ne_row o_r27 o_r35 (Nat.le_refl _)
        have m_r35_r27 := ne_row_symm m_r27_r35
        have g_r35 : ∀ b, (A_r35 : Option Addr).map (·.block) = some b → w.heap.size ≤ b := fun b h => Nat.le_trans hB.size (own_row o_r35 b h).1
        replace o_r35 := own_base (base := w.heap.size) o_r35 hB.size
        replace h_q9 := keep_below h_q9 hb_w36
        replace h_q25 := keep_below h_q25 hb_w36
        replace o_os := own_below o_os hb_w36
        replace o_e := own_below o_e hb_w36
        replace o_r27 := own_below o_r27 hb_w36
        replace hB := hB.trans (hb_w36.mono hB.size)
        clear hb_w36
        intro op_ ho_ xv_ ρ hρ qx_ ql_ qk_
        obtain rfl := Option.some.inj ho_
        clear ho_
        have e4 : ρ (.tmp 4) = .pointer (some ⟨q9, 0, none⟩) := (hρ.inn 4 rfl).trans s4
        have e45 : ρ (.tmp 45) = .agg #[.int .i64 0, .int .i64 0, .string ⟨((flatP (os.take (k + 1))).drop 0).toArray⟩, .slice A_r35 ((dsAt (os.take (k + 1)) 0).length) c_r35] := (hρ.out 7 45 rfl (by rw [hs.size]; decide) rfl).trans ((qx_ 7 (by decide) rfl rfl).trans r7)
        refine g_storeB rfl e4 e45 Try.sizeOf28 rfl rfl h_q9 rfl ?_
        intro w37 W_w37
        replace h_q9 := W_w37.here
        replace h_q25 := keep_wrote h_q25 W_w37 n_q9_q25
        replace o_os := own_wrote o_os W_w37 d_os_q9
        replace o_e := own_wrote o_e W_w37 d_e_q9
        replace o_r27 := own_wrote o_r27 W_w37 d_r27_q9
        replace o_r35 := own_wrote o_r35 W_w37 d_r35_q9
        replace hB := below_wrote hB hB.size W_w37 g_q9.le
        clear W_w37
        clear e4 e45
        clear hρ qx_ ql_ qk_
        intro xv_ a24 hρ hsz hdf qx_ ql_ qk_ qlk_
        replace s0 : a24.eval (.tmp 0) = .slice A n c := (hρ.inn 0 rfl).trans s0
        replace s2 : a24.eval (.tmp 2) = .bool false := (hρ.inn 2 rfl).trans s2
        replace s3 : a24.eval (.tmp 3) = .slice O os.length co := (hρ.inn 3 rfl).trans s3
        replace s4 : a24.eval (.tmp 4) = .pointer (some ⟨q9, 0, none⟩) := (hρ.inn 4 rfl).trans s4
        replace s5 : a24.eval (.tmp 5) = .slice A_r27 (k + 1) c_r27 := (hρ.inn 5 rfl).trans s5
        replace s6 : a24.eval (.tmp 6) = .int .i64 ((k : Nat) : Int) := (hρ.inn 6 rfl).trans s6
        replace s29 : a24.eval (.tmp 29) = .bool true := (hρ.inn 29 rfl).trans s29
        replace hs : St 154 a24 := ⟨hsz.trans hs.size, hdf.trans hs.nodef⟩
        clear hρ hsz hdf qx_ ql_ qk_ qlk_
        refine hK23 _ _ ?_
        clear hK23
        refine wp_region_lit ?_
        refine q_val rfl rfl ?_
        refine g_move rfl s6 ?_
        intro a25 p25
        have s30 : a25.eval (.tmp 30) = .int .i64 ((k : Nat) : Int) := p25.at hs (by decide)
        replace hs := p25.st hs
        refine q_val rfl rfl ?_
        refine g_add (r := ((k + 1 : Nat) : Int)) rfl s30 rfl (by omega) (by omega) ?_
        intro a26 p26
        have s31 : a26.eval (.tmp 31) = .int .i64 ((k + 1 : Nat) : Int) := p26.at hs (by decide)
        replace hs := p26.st hs
        refine q_val rfl rfl ?_
        refine g_assign rfl s31 ?_
        intro a27 p27
        have s6 : a27.eval (.tmp 6) = .int .i64 ((k + 1 : Nat) : Int) := p27.at hs (by decide)
        replace hs := p27.st hs
        refine wpList_nil ?_
        replace s0 : a27.eval (.tmp 0) = .slice A n c := ((p27.ne rfl).trans ((p26.ne rfl).trans (p25.ne rfl))).trans s0
        replace s2 : a27.eval (.tmp 2) = .bool false := ((p27.ne rfl).trans ((p26.ne rfl).trans (p25.ne rfl))).trans s2
        replace s3 : a27.eval (.tmp 3) = .slice O os.length co := ((p27.ne rfl).trans ((p26.ne rfl).trans (p25.ne rfl))).trans s3
        replace s4 : a27.eval (.tmp 4) = .pointer (some ⟨q9, 0, none⟩) := ((p27.ne rfl).trans ((p26.ne rfl).trans (p25.ne rfl))).trans s4
        replace s5 : a27.eval (.tmp 5) = .slice A_r27 (k + 1) c_r27 := ((p27.ne rfl).trans ((p26.ne rfl).trans (p25.ne rfl))).trans s5
        replace s29 : a27.eval (.tmp 29) = .bool true := ((p27.ne rfl).trans ((p26.ne rfl).trans (p25.ne rfl))).trans s29
        rw [fiL_snoc] at o_r27
        have o_e := o_r35
        have g_e := g_r35
        have d_e_q9 := d_r35_q9
        have m_os_e := m_os_r35
        have m_e_os := m_r35_os
        have m_fi_e := m_r27_r35
        have m_e_fi := m_r35_r27
        have o_fi := o_r27
        have g_fi := g_r27
        have d_fi_q9 := d_r27_q9
        have m_os_fi := m_os_r27
        have m_fi_os := m_r27_os
        have m_e_fi := m_r35_r27
        have m_fi_e := m_r27_r35
        refine show _ ∧ _ from ⟨⟨k + 1, _, _, _, _, hs, s0, s2, s3, s4, s5, s6, hB, h_q9, o_os, o_e, o_fi, d_e_q9, m_os_e, m_e_os, m_fi_e, g_e, d_fi_q9, m_os_fi, m_fi_os, m_e_fi, g_fi, hlt⟩, ?_⟩
        show os.length - (intOf (a27.eval (.tmp 6))).toNat < os.length - (intOf (a12.eval (.tmp 6))).toNat
        rw [s6, mu19]
        simp only [intOf]
        omega
    · replace s29 := s29.trans (congrArg Value.bool (decide_eq_false hc22))
      replace s29 : a16.eval (.tmp 29) = .bool false := s29
      refine c_false s29 ?_
      refine wp_exit ?_
      refine hK15 _ _ ?_
      clear hK15
      refine wp_seq_k fun K38 hK38 => ?_
      have hkz : k = os.length := by omega
      subst hkz
      rw [List.take_length] at h_q9 o_e
      have hs44 := sAt_44 hD os.length
      unfold sAt at hs44
      rw [List.take_length] at hs44
      have hpb : (flatP os).length + 44 ≤ 0 + 5000 := by omega
      have hel := dsAt_len os 0
      refine wp_region_lit ?_
      refine q_val rfl rfl ?_
      refine g_loadB rfl s4 Try.isAgg28 Try.sizeOf28 rfl h_q9 ?_
      intro a17 p17
      have s48 : a17.eval (.tmp 48) = .agg #[.int .i64 0, .int .i64 0, .string ⟨((flatP os).drop 0).toArray⟩, .slice E ((dsAt os 0).length) ce] := p17.at hs (by decide)
      replace hs := p17.st hs
      refine q_val rfl rfl ?_
      refine g_call rfl rfl Try.call11 (arr1 s48) ?_
      refine (fillPacker_at (P := os) (n := 0) (Nat.zero_le _) hpb ⟨by decide, by decide⟩ (by omega) rfl (own_nil o_e) (Rd.of_own o_e)).mono ?_
      rintro e w40 ⟨I39, A39, c39, rfl, o_x39, hi1, hi2, hi3, hb39⟩
      refine ⟨_, rfl, ?_⟩
      have d_x39_q9 := own_ne_box o_x39 (lt_of_block h_q9)
      have m_os_x39 := own_ne_row o_os o_x39 (Nat.le_refl _)
      have m_x39_os := ne_row_symm m_os_x39
      have m_e_x39 := own_ne_row o_e o_x39 (Nat.le_refl _)
      have m_x39_e := ne_row_symm m_e_x39
      have m_fi_x39 := own_ne_row o_fi o_x39 (Nat.le_refl _)
      have m_x39_fi := ne_row_symm m_fi_x39
      have g_x39 : ∀ b, (A39 : Option Addr).map (·.block) = some b → w.heap.size ≤ b := fun b h => Nat.le_trans hB.size (own_row o_x39 b h).1
      replace o_x39 := own_base (base := w.heap.size) o_x39 hB.size
      replace h_q9 := keep_below h_q9 hb39
      replace o_os := own_below o_os hb39
      replace o_e := own_below o_e hb39
      replace o_fi := own_below o_fi hb39
      replace hB := hB.trans (hb39.mono hB.size)
      clear hb39
      obtain ⟨N, hN⟩ : ∃ N, N = (flatP (os ++ I39)).length / 24 := ⟨_, rfl⟩
      have hN2 : (flatP (os ++ I39)).length = 24 * N := by omega
      have hPl := flatP_len4 (os ++ I39)
      have hPo : (flatP os).length ≤ (flatP (os ++ I39)).length := by rw [flatP_append, List.length_append]; omega
      have hN3 : N ≤ 100 := by omega
      clear hN hi2
      intro a18 p18
      have s49 : a18.eval (.tmp 49) = .agg #[.int .i64 0, .int .i64 0, .string ⟨((flatP (os ++ I39)).drop 0).toArray⟩, .slice A39 ((dsAt (os ++ I39) 0).length) c39] := p18.at hs (by decide)
      replace hs := p18.st hs
      refine q_val rfl rfl ?_
      refine g_call rfl rfl Try.call10 (arr1 s49) ?_
      refine (takeFrames_at (P := (os ++ I39)) (c0 := 0) (i := 0) (k := N) rfl (by decide) (by omega) (by omega) (by omega) (by omega) rfl (own_nil o_x39) (Rd.of_own o_x39)).mono ?_
      rintro e w42 ⟨A41, c41, G41, g41, rfl, o_x41, o_f41, hb41⟩
      refine ⟨_, rfl, ?_⟩
      have m_x41_f41 := own_ne_type o_x41 o_f41 (by decide)
      have m_f41_x41 := ne_row_symm m_x41_f41
      have d_x41_q9 := own_ne_box o_x41 (lt_of_block h_q9)
      have m_os_x41 := own_ne_row o_os o_x41 (Nat.le_refl _)
      have m_x41_os := ne_row_symm m_os_x41
      have m_e_x41 := own_ne_row o_e o_x41 (Nat.le_refl _)
      have m_x41_e := ne_row_symm m_e_x41
      have m_fi_x41 := own_ne_row o_fi o_x41 (Nat.le_refl _)
      have m_x41_fi := ne_row_symm m_fi_x41
      have m_x39_x41 := own_ne_row o_x39 o_x41 (Nat.le_refl _)
      have m_x41_x39 := ne_row_symm m_x39_x41
      have g_x41 : ∀ b, (A41 : Option Addr).map (·.block) = some b → w.heap.size ≤ b := fun b h => Nat.le_trans hB.size (own_row o_x41 b h).1
      replace o_x41 := own_base (base := w.heap.size) o_x41 hB.size
      have d_f41_q9 := own_ne_box o_f41 (lt_of_block h_q9)
      have m_os_f41 := own_ne_row o_os o_f41 (Nat.le_refl _)
      have m_f41_os := ne_row_symm m_os_f41
      have m_e_f41 := own_ne_row o_e o_f41 (Nat.le_refl _)
      have m_f41_e := ne_row_symm m_e_f41
      have m_fi_f41 := own_ne_row o_fi o_f41 (Nat.le_refl _)
      have m_f41_fi := ne_row_symm m_fi_f41
      have m_x39_f41 := own_ne_row o_x39 o_f41 (Nat.le_refl _)
      have m_f41_x39 := ne_row_symm m_x39_f41
      have g_f41 : ∀ b, (G41 : Option Addr).map (·.block) = some b → w.heap.size ≤ b := fun b h => Nat.le_trans hB.size (own_row o_f41 b h).1
      replace o_f41 := own_base (base := w.heap.size) o_f41 hB.size
      replace h_q9 := keep_below h_q9 hb41
      replace o_os := own_below o_os hb41
      replace o_e := own_below o_e hb41
      replace o_fi := own_below o_fi hb41
      replace o_x39 := own_below o_x39 hb41
      replace hB := hB.trans (hb41.mono hB.size)
      clear hb41
      intro a19 p19
      have s50 : a19.eval (.tmp 50) = .tuple #[.agg #[.int .i64 0, .int .i64 ((0 + ((0 + N : Nat) : Int)) % 256), .string ⟨((flatP (os ++ I39)).drop (24 * (0 + N))).toArray⟩, .slice A41 ((dsAt (os ++ I39) (24 * (0 + N))).length) c41], .slice G41 ((frs (os ++ I39) 0 0 N).length) g41] := p19.at hs (by decide)
      replace hs := p19.st hs
      refine q_val rfl rfl ?_
      refine g_move rfl s50 ?_
      intro a20 p20
      have s47 : a20.eval (.tmp 47) = .tuple #[.agg #[.int .i64 0, .int .i64 ((0 + ((0 + N : Nat) : Int)) % 256), .string ⟨((flatP (os ++ I39)).drop (24 * (0 + N))).toArray⟩, .slice A41 ((dsAt (os ++ I39) (24 * (0 + N))).length) c41], .slice G41 ((frs (os ++ I39) 0 0 N).length) g41] := p20.at hs (by decide)
      replace hs := p20.st hs
      refine q_val rfl rfl ?_
      refine g_extract rfl s47 rfl ?_
      intro a21 p21
      have s51 : a21.eval (.tmp 51) = .agg #[.int .i64 0, .int .i64 ((0 + ((0 + N : Nat) : Int)) % 256), .string ⟨((flatP (os ++ I39)).drop (24 * (0 + N))).toArray⟩, .slice A41 ((dsAt (os ++ I39) (24 * (0 + N))).length) c41] := p21.at hs (by decide)
      replace hs := p21.st hs
      refine q_val rfl rfl ?_
      refine g_extract rfl ((p21.ne rfl).trans s47) rfl ?_
      intro a22 p22
      have s52 : a22.eval (.tmp 52) = .slice G41 ((frs (os ++ I39) 0 0 N).length) g41 := p22.at hs (by decide)
      replace hs := p22.st hs
      refine q_val rfl rfl ?_
      refine g_alloc rfl Try.zeroValue28 rfl ?_
      intro q43 w44 N_q43
      have n_q9_q43 := N_q43.ne ⟨lt_of_block h_q9⟩
      have n_q43_q9 := n_q9_q43.symm
      have d_os_q43 := own_ne_new o_os N_q43
      have d_e_q43 := own_ne_new o_e N_q43
      have d_fi_q43 := own_ne_new o_fi N_q43
      have d_x39_q43 := own_ne_new o_x39 N_q43
      have d_x41_q43 := own_ne_new o_x41 N_q43
      have d_f41_q43 := own_ne_new o_f41 N_q43
      have g_q43 : GeB w.heap.size q43 := ⟨Nat.le_trans hB.size N_q43.lo⟩
      replace h_q9 := keep_below h_q9 N_q43.below
      replace o_os := own_below o_os N_q43.below
      replace o_e := own_below o_e N_q43.below
      replace o_fi := own_below o_fi N_q43.below
      replace o_x39 := own_below o_x39 N_q43.below
      replace o_x41 := own_below o_x41 N_q43.below
      replace o_f41 := own_below o_f41 N_q43.below
      replace hB := below_new hB hB.size N_q43
      have h_q43 := N_q43.here
      clear N_q43
      intro a23 p23
      have s7 : a23.eval (.tmp 7) = .pointer (some ⟨q43, 0, none⟩) := p23.at hs (by decide)
      replace hs := p23.st hs
      refine q_eff rfl rfl ?_
      refine g_storeB rfl s7 (((p23.ne rfl).trans (p22.ne rfl)).trans s51) Try.sizeOf28 rfl rfl h_q43 rfl ?_
      intro w45 W_w45
      replace h_q9 := keep_wrote h_q9 W_w45 n_q43_q9
      replace h_q43 := W_w45.here
      replace o_os := own_wrote o_os W_w45 d_os_q43
      replace o_e := own_wrote o_e W_w45 d_e_q43
      replace o_fi := own_wrote o_fi W_w45 d_fi_q43
      replace o_x39 := own_wrote o_x39 W_w45 d_x39_q43
      replace o_x41 := own_wrote o_x41 W_w45 d_x41_q43
      replace o_f41 := own_wrote o_f41 W_w45 d_f41_q43
      replace hB := below_wrote hB hB.size W_w45 g_q43.le
      clear W_w45
      refine q_val rfl rfl ?_
      refine g_assign rfl ((p23.ne rfl).trans s52) ?_
      intro a24 p24
      have s8 : a24.eval (.tmp 8) = .slice G41 ((frs (os ++ I39) 0 0 N).length) g41 := p24.at hs (by decide)
      replace hs := p24.st hs
      refine wpList_nil ?_
      replace s0 : a24.eval (.tmp 0) = .slice A n c := ((p24.ne rfl).trans ((p23.ne rfl).trans ((p22.ne rfl).trans ((p21.ne rfl).trans ((p20.ne rfl).trans ((p19.ne rfl).trans ((p18.ne rfl).trans (p17.ne rfl)))))))).trans s0
      replace s2 : a24.eval (.tmp 2) = .bool false := ((p24.ne rfl).trans ((p23.ne rfl).trans ((p22.ne rfl).trans ((p21.ne rfl).trans ((p20.ne rfl).trans ((p19.ne rfl).trans ((p18.ne rfl).trans (p17.ne rfl)))))))).trans s2
      replace s3 : a24.eval (.tmp 3) = .slice O os.length co := ((p24.ne rfl).trans ((p23.ne rfl).trans ((p22.ne rfl).trans ((p21.ne rfl).trans ((p20.ne rfl).trans ((p19.ne rfl).trans ((p18.ne rfl).trans (p17.ne rfl)))))))).trans s3
      replace s5 : a24.eval (.tmp 5) = .slice FI os.length cf := ((p24.ne rfl).trans ((p23.ne rfl).trans ((p22.ne rfl).trans ((p21.ne rfl).trans ((p20.ne rfl).trans ((p19.ne rfl).trans ((p18.ne rfl).trans (p17.ne rfl)))))))).trans s5
      refine hK38 _ _ ?_
      clear hK38
      refine wp_seq_k fun K46 hK46 => ?_
      obtain ⟨fr, hfr⟩ : ∃ fr, fr = frs (os ++ I39) 0 0 N := ⟨_, rfl⟩
      have hfl : fr.length = N := by rw [hfr]; exact frs_len _ _ _ _
      rw [← hfr] at s8 o_f41
      obtain ⟨hl1, hl2, hl3, hl4⟩ := lost_law (t := tOf bs) (ps := os) (I := I39) (N := N) (fun x hx => ⟨(hD x hx).1, by have := (hD x hx).2; omega⟩) hi1 hN2 (by omega)
      refine wp_region_lit ?_
      refine q_val rfl rfl ?_
      refine g_bslice0 rfl Try.underlying33 Try.sizeOf40 ?_
      intro q47 w48 N_q47
      have n_q9_q47 := N_q47.ne ⟨lt_of_block h_q9⟩
      have n_q47_q9 := n_q9_q47.symm
      have n_q43_q47 := N_q47.ne ⟨lt_of_block h_q43⟩
      have n_q47_q43 := n_q43_q47.symm
      have d_os_q47 := own_ne_new o_os N_q47
      have d_e_q47 := own_ne_new o_e N_q47
      have d_fi_q47 := own_ne_new o_fi N_q47
      have d_x39_q47 := own_ne_new o_x39 N_q47
      have d_x41_q47 := own_ne_new o_x41 N_q47
      have d_f41_q47 := own_ne_new o_f41 N_q47
      have g_q47 : GeB w.heap.size q47 := ⟨Nat.le_trans hB.size N_q47.lo⟩
      replace h_q9 := keep_below h_q9 N_q47.below
      replace h_q43 := keep_below h_q43 N_q47.below
      replace o_os := own_below o_os N_q47.below
      replace o_e := own_below o_e N_q47.below
      replace o_fi := own_below o_fi N_q47.below
      replace o_x39 := own_below o_x39 N_q47.below
      replace o_x41 := own_below o_x41 N_q47.below
      replace o_f41 := own_below o_f41 N_q47.below
      replace hB := below_new hB hB.size N_q47
      have h_q47 := N_q47.here
      clear N_q47
      intro a25 p25
      have s53 : a25.eval (.tmp 53) = .slice (some ⟨q47, 0, none⟩) 0 0 := p25.at hs (by decide)
      replace hs := p25.st hs
      refine q_val rfl rfl ?_
      refine g_assign rfl s53 ?_
      intro a26 p26
      have s9 : a26.eval (.tmp 9) = .slice (some ⟨q47, 0, none⟩) 0 0 := p26.at hs (by decide)
      replace hs := p26.st hs
      refine wpList_nil ?_
      replace s0 : a26.eval (.tmp 0) = .slice A n c := ((p26.ne rfl).trans (p25.ne rfl)).trans s0
      replace s2 : a26.eval (.tmp 2) = .bool false := ((p26.ne rfl).trans (p25.ne rfl)).trans s2
      replace s3 : a26.eval (.tmp 3) = .slice O os.length co := ((p26.ne rfl).trans (p25.ne rfl)).trans s3
      replace s5 : a26.eval (.tmp 5) = .slice FI os.length cf := ((p26.ne rfl).trans (p25.ne rfl)).trans s5
      replace s8 : a26.eval (.tmp 8) = .slice G41 fr.length g41 := ((p26.ne rfl).trans (p25.ne rfl)).trans s8
      refine hK46 _ _ ?_
      clear hK46
      refine wp_seq_k fun K49 hK49 => ?_
      refine wp_region_lit ?_
      refine q_val rfl rfl ?_
      refine g_bslice0 rfl Try.underlying37 Try.sizeOf4 ?_
      intro q50 w51 N_q50
      have n_q9_q50 := N_q50.ne ⟨lt_of_block h_q9⟩
      have n_q50_q9 := n_q9_q50.symm
      have n_q43_q50 := N_q50.ne ⟨lt_of_block h_q43⟩
      have n_q50_q43 := n_q43_q50.symm
      have n_q47_q50 := N_q50.ne ⟨lt_of_block h_q47⟩
      have n_q50_q47 := n_q47_q50.symm
      have d_os_q50 := own_ne_new o_os N_q50
      have d_e_q50 := own_ne_new o_e N_q50
      have d_fi_q50 := own_ne_new o_fi N_q50
      have d_x39_q50 := own_ne_new o_x39 N_q50
      have d_x41_q50 := own_ne_new o_x41 N_q50
      have d_f41_q50 := own_ne_new o_f41 N_q50
      have g_q50 : GeB w.heap.size q50 := ⟨Nat.le_trans hB.size N_q50.lo⟩
      replace h_q9 := keep_below h_q9 N_q50.below
      replace h_q43 := keep_below h_q43 N_q50.below
      replace h_q47 := keep_below h_q47 N_q50.below
      replace o_os := own_below o_os N_q50.below
      replace o_e := own_below o_e N_q50.below
      replace o_fi := own_below o_fi N_q50.below
      replace o_x39 := own_below o_x39 N_q50.below
      replace o_x41 := own_below o_x41 N_q50.below
      replace o_f41 := own_below o_f41 N_q50.below
      replace hB := below_new hB hB.size N_q50
      have h_q50 := N_q50.here
      clear N_q50
      intro a27 p27
      have s54 : a27.eval (.tmp 54) = .slice (some ⟨q50, 0, none⟩) 0 0 := p27.at hs (by decide)
      replace hs := p27.st hs
      refine q_val rfl rfl ?_
      refine g_assign rfl s54 ?_
      intro a28 p28
      have s10 : a28.eval (.tmp 10) = .slice (some ⟨q50, 0, none⟩) 0 0 := p28.at hs (by decide)
      replace hs := p28.st hs
      refine wpList_nil ?_
      replace s0 : a28.eval (.tmp 0) = .slice A n c := ((p28.ne rfl).trans (p27.ne rfl)).trans s0
      replace s2 : a28.eval (.tmp 2) = .bool false := ((p28.ne rfl).trans (p27.ne rfl)).trans s2
      replace s3 : a28.eval (.tmp 3) = .slice O os.length co := ((p28.ne rfl).trans (p27.ne rfl)).trans s3
      replace s5 : a28.eval (.tmp 5) = .slice FI os.length cf := ((p28.ne rfl).trans (p27.ne rfl)).trans s5
      replace s8 : a28.eval (.tmp 8) = .slice G41 fr.length g41 := ((p28.ne rfl).trans (p27.ne rfl)).trans s8
      replace s9 : a28.eval (.tmp 9) = .slice (some ⟨q47, 0, none⟩) 0 0 := ((p28.ne rfl).trans (p27.ne rfl)).trans s9
      refine hK49 _ _ ?_
      clear hK49
      refine wp_seq_k fun K52 hK52 => ?_
      refine wp_seq_k fun K53 hK53 => ?_
      refine wp_region_lit ?_
      refine q_val rfl rfl ?_
      refine g_assign rfl rfl ?_
      intro a29 p29
      have s11 : a29.eval (.tmp 11) = .int .i64 0 := p29.at hs (by decide)
      replace hs := p29.st hs
      refine wpList_nil ?_
      replace s0 : a29.eval (.tmp 0) = .slice A n c := (p29.ne rfl).trans s0
      replace s2 : a29.eval (.tmp 2) = .bool false := (p29.ne rfl).trans s2
      replace s3 : a29.eval (.tmp 3) = .slice O os.length co := (p29.ne rfl).trans s3
      replace s5 : a29.eval (.tmp 5) = .slice FI os.length cf := (p29.ne rfl).trans s5
      replace s8 : a29.eval (.tmp 8) = .slice G41 fr.length g41 := (p29.ne rfl).trans s8
      replace s9 : a29.eval (.tmp 9) = .slice (some ⟨q47, 0, none⟩) 0 0 := (p29.ne rfl).trans s9
      replace s10 : a29.eval (.tmp 10) = .slice (some ⟨q50, 0, none⟩) 0 0 := (p29.ne rfl).trans s10
      refine hK53 _ _ ?_
      clear hK53
      refine wp_block ?_
      have o_kp : w51.ownsRow w.heap.size 40 4 (.slice (some ⟨q47, 0, none⟩) 0 0) 0 ([].flatMap cFrame) := own_box_row (base := w.heap.size) (xs := []) h_q47 g_q47.le rfl (by decide) rfl
      have g_kp : ∀ b, (some ⟨q47, 0, none⟩ : Option Addr).map (·.block) = some b → w.heap.size ≤ b := ge_box g_q47.le
      have d_kp_q9 : (some ⟨q47, 0, none⟩ : Option Addr).map (·.block) ≠ some q9 := neb_map n_q47_q9
      have d_kp_q43 : (some ⟨q47, 0, none⟩ : Option Addr).map (·.block) ≠ some q43 := neb_map n_q47_q43
      have d_kp_q50 : (some ⟨q47, 0, none⟩ : Option Addr).map (·.block) ≠ some q50 := neb_map n_q47_q50
      have m_os_kp : ∀ b, (O : Option Addr).map (·.block) = some b → (some ⟨q47, 0, none⟩ : Option Addr).map (·.block) ≠ some b := row_ne_box d_os_q47
      have m_kp_os := ne_row_symm m_os_kp
      have m_e_kp : ∀ b, (E : Option Addr).map (·.block) = some b → (some ⟨q47, 0, none⟩ : Option Addr).map (·.block) ≠ some b := row_ne_box d_e_q47
      have m_kp_e := ne_row_symm m_e_kp
      have m_fi_kp : ∀ b, (FI : Option Addr).map (·.block) = some b → (some ⟨q47, 0, none⟩ : Option Addr).map (·.block) ≠ some b := row_ne_box d_fi_q47
      have m_kp_fi := ne_row_symm m_fi_kp
      have m_x39_kp : ∀ b, (A39 : Option Addr).map (·.block) = some b → (some ⟨q47, 0, none⟩ : Option Addr).map (·.block) ≠ some b := row_ne_box d_x39_q47
      have m_kp_x39 := ne_row_symm m_x39_kp
      have m_x41_kp : ∀ b, (A41 : Option Addr).map (·.block) = some b → (some ⟨q47, 0, none⟩ : Option Addr).map (·.block) ≠ some b := row_ne_box d_x41_q47
      have m_kp_x41 := ne_row_symm m_x41_kp
      have m_f41_kp : ∀ b, (G41 : Option Addr).map (·.block) = some b → (some ⟨q47, 0, none⟩ : Option Addr).map (·.block) ≠ some b := row_ne_box d_f41_q47
      have m_kp_f41 := ne_row_symm m_f41_kp
      have o_th : w51.ownsRow w.heap.size 4 1 (.slice (some ⟨q50, 0, none⟩) 0 0) 0 ([].flatMap cT) := own_box_row (base := w.heap.size) (xs := []) h_q50 g_q50.le rfl (by decide) rfl
      have g_th : ∀ b, (some ⟨q50, 0, none⟩ : Option Addr).map (·.block) = some b → w.heap.size ≤ b := ge_box g_q50.le
      have d_th_q9 : (some ⟨q50, 0, none⟩ : Option Addr).map (·.block) ≠ some q9 := neb_map n_q50_q9
      have d_th_q43 : (some ⟨q50, 0, none⟩ : Option Addr).map (·.block) ≠ some q43 := neb_map n_q50_q43
      have m_os_th : ∀ b, (O : Option Addr).map (·.block) = some b → (some ⟨q50, 0, none⟩ : Option Addr).map (·.block) ≠ some b := row_ne_box d_os_q50
      have m_th_os := ne_row_symm m_os_th
      have m_e_th : ∀ b, (E : Option Addr).map (·.block) = some b → (some ⟨q50, 0, none⟩ : Option Addr).map (·.block) ≠ some b := row_ne_box d_e_q50
      have m_th_e := ne_row_symm m_e_th
      have m_fi_th : ∀ b, (FI : Option Addr).map (·.block) = some b → (some ⟨q50, 0, none⟩ : Option Addr).map (·.block) ≠ some b := row_ne_box d_fi_q50
      have m_th_fi := ne_row_symm m_fi_th
      have m_x39_th : ∀ b, (A39 : Option Addr).map (·.block) = some b → (some ⟨q50, 0, none⟩ : Option Addr).map (·.block) ≠ some b := row_ne_box d_x39_q50
      have m_th_x39 := ne_row_symm m_x39_th
      have m_x41_th : ∀ b, (A41 : Option Addr).map (·.block) = some b → (some ⟨q50, 0, none⟩ : Option Addr).map (·.block) ≠ some b := row_ne_box d_x41_q50
      have m_th_x41 := ne_row_symm m_x41_th
      have m_f41_th : ∀ b, (G41 : Option Addr).map (·.block) = some b → (some ⟨q50, 0, none⟩ : Option Addr).map (·.block) ≠ some b := row_ne_box d_f41_q50
      have m_th_f41 := ne_row_symm m_f41_th
      have m_kp_th : ∀ b, ((some ⟨q47, 0, none⟩) : Option Addr).map (·.block) = some b → (some ⟨q50, 0, none⟩ : Option Addr).map (·.block) ≠ some b := row_ne_box d_kp_q50
      have m_th_kp := ne_row_symm m_kp_th
      refine wp_loop (fun a wr => ∃ (k : Nat) (nk : Nat) (KP : Option Addr) (ck : Nat) (TH : Option Addr) (ct : Nat), (St 154 a) ∧ (a.eval (.tmp 0) = .slice A n c) ∧ (a.eval (.tmp 2) = .bool false) ∧ (a.eval (.tmp 3) = .slice O os.length co) ∧ (a.eval (.tmp 5) = .slice FI os.length cf) ∧ (a.eval (.tmp 8) = .slice G41 fr.length g41) ∧ (a.eval (.tmp 9) = .slice KP nk ck) ∧ (a.eval (.tmp 10) = .slice TH k ct) ∧ (a.eval (.tmp 11) = .int .i64 ((k : Nat) : Int)) ∧ (Below w.heap.size w wr) ∧ (wr.heap[q9]? = some (.cells #[.int .i64 0, .int .i64 0, .string ⟨((flatP os).drop 0).toArray⟩, .slice E ((dsAt os 0).length) ce] 28 (0, 0))) ∧ (wr.heap[q43]? = some (.cells #[.int .i64 0, .int .i64 ((0 + ((0 + N : Nat) : Int)) % 256), .string ⟨((flatP (os ++ I39)).drop (24 * (0 + N))).toArray⟩, .slice A41 ((dsAt (os ++ I39) (24 * (0 + N))).length) c41] 28 (0, 0))) ∧ (wr.ownsRow w.heap.size 32 3 (.slice O os.length co) os.length (os.flatMap cPacket)) ∧ (wr.ownsRow w.heap.size 3 1 (.slice E ((dsAt os 0).length) ce) ((dsAt os 0).length) ((dsAt os 0).flatMap cI)) ∧ (wr.ownsRow w.heap.size 3 1 (.slice FI os.length cf) os.length ((fiL os os.length).flatMap cI)) ∧ (wr.ownsRow w.heap.size 3 1 (.slice A39 ((dsAt (os ++ I39) 0).length) c39) ((dsAt (os ++ I39) 0).length) ((dsAt (os ++ I39) 0).flatMap cI)) ∧ (wr.ownsRow w.heap.size 3 1 (.slice A41 ((dsAt (os ++ I39) (24 * (0 + N))).length) c41) ((dsAt (os ++ I39) (24 * (0 + N))).length) ((dsAt (os ++ I39) (24 * (0 + N))).flatMap cI)) ∧ (wr.ownsRow w.heap.size 40 4 (.slice G41 fr.length g41) fr.length (fr.flatMap cFrame)) ∧ (wr.ownsRow w.heap.size 40 4 (.slice KP nk ck) nk ((keptF (tOf bs) (os ++ I39) 0 0 k).flatMap cFrame)) ∧ (wr.ownsRow w.heap.size 4 1 (.slice TH k ct) k ((tsL (tOf bs) k).flatMap cT)) ∧ ((KP : Option Addr).map (·.block) ≠ some q9) ∧ ((KP : Option Addr).map (·.block) ≠ some q43) ∧ (∀ b, (O : Option Addr).map (·.block) = some b → (KP : Option Addr).map (·.block) ≠ some b) ∧ (∀ b, (KP : Option Addr).map (·.block) = some b → (O : Option Addr).map (·.block) ≠ some b) ∧ (∀ b, (E : Option Addr).map (·.block) = some b → (KP : Option Addr).map (·.block) ≠ some b) ∧ (∀ b, (KP : Option Addr).map (·.block) = some b → (E : Option Addr).map (·.block) ≠ some b) ∧ (∀ b, (FI : Option Addr).map (·.block) = some b → (KP : Option Addr).map (·.block) ≠ some b) ∧ (∀ b, (KP : Option Addr).map (·.block) = some b → (FI : Option Addr).map (·.block) ≠ some b) ∧ (∀ b, (A39 : Option Addr).map (·.block) = some b → (KP : Option Addr).map (·.block) ≠ some b) ∧ (∀ b, (KP : Option Addr).map (·.block) = some b → (A39 : Option Addr).map (·.block) ≠ some b) ∧ (∀ b, (A41 : Option Addr).map (·.block) = some b → (KP : Option Addr).map (·.block) ≠ some b) ∧ (∀ b, (KP : Option Addr).map (·.block) = some b → (A41 : Option Addr).map (·.block) ≠ some b) ∧ (∀ b, (G41 : Option Addr).map (·.block) = some b → (KP : Option Addr).map (·.block) ≠ some b) ∧ (∀ b, (KP : Option Addr).map (·.block) = some b → (G41 : Option Addr).map (·.block) ≠ some b) ∧ (∀ b, (TH : Option Addr).map (·.block) = some b → (KP : Option Addr).map (·.block) ≠ some b) ∧ (∀ b, (KP : Option Addr).map (·.block) = some b → w.heap.size ≤ b) ∧ ((TH : Option Addr).map (·.block) ≠ some q9) ∧ ((TH : Option Addr).map (·.block) ≠ some q43) ∧ (∀ b, (O : Option Addr).map (·.block) = some b → (TH : Option Addr).map (·.block) ≠ some b) ∧ (∀ b, (TH : Option Addr).map (·.block) = some b → (O : Option Addr).map (·.block) ≠ some b) ∧ (∀ b, (E : Option Addr).map (·.block) = some b → (TH : Option Addr).map (·.block) ≠ some b) ∧ (∀ b, (TH : Option Addr).map (·.block) = some b → (E : Option Addr).map (·.block) ≠ some b) ∧ (∀ b, (FI : Option Addr).map (·.block) = some b → (TH : Option Addr).map (·.block) ≠ some b) ∧ (∀ b, (TH : Option Addr).map (·.block) = some b → (FI : Option Addr).map (·.block) ≠ some b) ∧ (∀ b, (A39 : Option Addr).map (·.block) = some b → (TH : Option Addr).map (·.block) ≠ some b) ∧ (∀ b, (TH : Option Addr).map (·.block) = some b → (A39 : Option Addr).map (·.block) ≠ some b) ∧ (∀ b, (A41 : Option Addr).map (·.block) = some b → (TH : Option Addr).map (·.block) ≠ some b) ∧ (∀ b, (TH : Option Addr).map (·.block) = some b → (A41 : Option Addr).map (·.block) ≠ some b) ∧ (∀ b, (G41 : Option Addr).map (·.block) = some b → (TH : Option Addr).map (·.block) ≠ some b) ∧ (∀ b, (TH : Option Addr).map (·.block) = some b → (G41 : Option Addr).map (·.block) ≠ some b) ∧ (∀ b, (KP : Option Addr).map (·.block) = some b → (TH : Option Addr).map (·.block) ≠ some b) ∧ (∀ b, (TH : Option Addr).map (·.block) = some b → w.heap.size ≤ b) ∧ (k ≤ N) ∧ ((keptF (tOf bs) (os ++ I39) 0 0 k).length = nk)) (fun a _ => N - (intOf (a.eval (.tmp 11))).toNat) (⟨0, 0, (some ⟨q47, 0, none⟩), 0, (some ⟨q50, 0, none⟩), 0, hs, s0, s2, s3, s5, s8, s9, s10, s11, hB, h_q9, h_q43, o_os, o_e, o_fi, o_x39, o_x41, o_f41, o_kp, o_th, d_kp_q9, d_kp_q43, m_os_kp, m_kp_os, m_e_kp, m_kp_e, m_fi_kp, m_kp_fi, m_x39_kp, m_kp_x39, m_x41_kp, m_kp_x41, m_f41_kp, m_kp_f41, m_th_kp, g_kp, d_th_q9, d_th_q43, m_os_th, m_th_os, m_e_th, m_th_e, m_fi_th, m_th_fi, m_x39_th, m_th_x39, m_x41_th, m_th_x41, m_f41_th, m_th_f41, m_kp_th, g_th, Nat.zero_le _, rfl⟩) ?_
      intro a30 w55 hI
      obtain ⟨k, nk, KP, ck, TH, ct, hI⟩ := hI
      have hs := hI.1
      replace hI := hI.2
      have s0 := hI.1
      replace hI := hI.2
      have s2 := hI.1
      replace hI := hI.2
      have s3 := hI.1
      replace hI := hI.2
      have s5 := hI.1
      replace hI := hI.2
      have s8 := hI.1
      replace hI := hI.2
      have s9 := hI.1
      replace hI := hI.2
      have s10 := hI.1
      replace hI := hI.2
      have s11 := hI.1
      replace hI := hI.2
      have hB := hI.1
      replace hI := hI.2
      have h_q9 := hI.1
      replace hI := hI.2
      have h_q43 := hI.1
      replace hI := hI.2
      have o_os := hI.1
      replace hI := hI.2
      have o_e := hI.1
      replace hI := hI.2
      have o_fi := hI.1
      replace hI := hI.2
      have o_x39 := hI.1
      replace hI := hI.2
      have o_x41 := hI.1
      replace hI := hI.2
      have o_f41 := hI.1
      replace hI := hI.2
      have o_kp := hI.1
      replace hI := hI.2
      have o_th := hI.1
      replace hI := hI.2
      have d_kp_q9 := hI.1
      replace hI := hI.2
      have d_kp_q43 := hI.1
      replace hI := hI.2
      have m_os_kp := hI.1
      replace hI := hI.2
      have m_kp_os := hI.1
      replace hI := hI.2
      have m_e_kp := hI.1
      replace hI := hI.2
      have m_kp_e := hI.1
      replace hI := hI.2
      have m_fi_kp := hI.1
      replace hI := hI.2
      have m_kp_fi := hI.1
      replace hI := hI.2
      have m_x39_kp := hI.1
      replace hI := hI.2
      have m_kp_x39 := hI.1
      replace hI := hI.2
      have m_x41_kp := hI.1
      replace hI := hI.2
      have m_kp_x41 := hI.1
      replace hI := hI.2
      have m_f41_kp := hI.1
      replace hI := hI.2
      have m_kp_f41 := hI.1
      replace hI := hI.2
      have m_th_kp := hI.1
      replace hI := hI.2
      have g_kp := hI.1
      replace hI := hI.2
      have d_th_q9 := hI.1
      replace hI := hI.2
      have d_th_q43 := hI.1
      replace hI := hI.2
      have m_os_th := hI.1
      replace hI := hI.2
      have m_th_os := hI.1
      replace hI := hI.2
      have m_e_th := hI.1
      replace hI := hI.2
      have m_th_e := hI.1
      replace hI := hI.2
      have m_fi_th := hI.1
      replace hI := hI.2
      have m_th_fi := hI.1
      replace hI := hI.2
      have m_x39_th := hI.1
      replace hI := hI.2
      have m_th_x39 := hI.1
      replace hI := hI.2
      have m_x41_th := hI.1
      replace hI := hI.2
      have m_th_x41 := hI.1
      replace hI := hI.2
      have m_f41_th := hI.1
      replace hI := hI.2
      have m_th_f41 := hI.1
      replace hI := hI.2
      have m_kp_th := hI.1
      replace hI := hI.2
      have g_th := hI.1
      replace hI := hI.2
      have hk := hI.1
      replace hI := hI.2
      have hnk := hI
      clear hI
      have mu56 := s11
      have hkl := keptF_le (tOf bs) (os ++ I39) 0 k 0
      refine wp_seq_k fun K57 hK57 => ?_
      refine wp_seq_k fun K58 hK58 => ?_
      refine wp_region_lit ?_
      refine q_val rfl rfl ?_
      refine g_move rfl s11 ?_
      intro a31 p31
      have s55 : a31.eval (.tmp 55) = .int .i64 ((k : Nat) : Int) := p31.at hs (by decide)
      replace hs := p31.st hs
      refine q_val rfl rfl ?_
      refine g_move rfl ((p31.ne rfl).trans s8) ?_
      intro a32 p32
      have s56 : a32.eval (.tmp 56) = .slice G41 fr.length g41 := p32.at hs (by decide)
      replace hs := p32.st hs
      refine q_val rfl rfl ?_
      refine g_len (e := _) rfl Try.underlying33 s56 ?_
      intro a33 p33
      have s57 : a33.eval (.tmp 57) = .int .i64 ((fr.length : Nat) : Int) := p33.at hs (by decide)
      replace hs := p33.st hs
      refine q_val rfl rfl ?_
      refine g_lss rfl (((p33.ne rfl).trans (p32.ne rfl)).trans s55) s57 ?_
      intro a34 p34
      have s58 : a34.eval (.tmp 58) = .bool (decide (((k : Nat) : Int) < ((fr.length : Nat) : Int))) := p34.at hs (by decide)
      replace hs := p34.st hs
      refine wpList_nil ?_
      replace s0 : a34.eval (.tmp 0) = .slice A n c := ((p34.ne rfl).trans ((p33.ne rfl).trans ((p32.ne rfl).trans (p31.ne rfl)))).trans s0
      replace s2 : a34.eval (.tmp 2) = .bool false := ((p34.ne rfl).trans ((p33.ne rfl).trans ((p32.ne rfl).trans (p31.ne rfl)))).trans s2
      replace s3 : a34.eval (.tmp 3) = .slice O os.length co := ((p34.ne rfl).trans ((p33.ne rfl).trans ((p32.ne rfl).trans (p31.ne rfl)))).trans s3
      replace s5 : a34.eval (.tmp 5) = .slice FI os.length cf := ((p34.ne rfl).trans ((p33.ne rfl).trans ((p32.ne rfl).trans (p31.ne rfl)))).trans s5
      replace s8 : a34.eval (.tmp 8) = .slice G41 fr.length g41 := ((p34.ne rfl).trans ((p33.ne rfl).trans ((p32.ne rfl).trans (p31.ne rfl)))).trans s8
      replace s9 : a34.eval (.tmp 9) = .slice KP nk ck := ((p34.ne rfl).trans ((p33.ne rfl).trans ((p32.ne rfl).trans (p31.ne rfl)))).trans s9
      replace s10 : a34.eval (.tmp 10) = .slice TH k ct := ((p34.ne rfl).trans ((p33.ne rfl).trans ((p32.ne rfl).trans (p31.ne rfl)))).trans s10
      replace s11 : a34.eval (.tmp 11) = .int .i64 ((k : Nat) : Int) := ((p34.ne rfl).trans ((p33.ne rfl).trans ((p32.ne rfl).trans (p31.ne rfl)))).trans s11
      refine hK58 _ _ ?_
      clear hK58
      by_cases hc59 : ((k : Nat) : Int) < ((fr.length : Nat) : Int)
      · replace s58 := s58.trans (congrArg Value.bool (decide_eq_true hc59))
        replace s58 : a34.eval (.tmp 58) = .bool true := s58
        refine c_true s58 ?_
        refine wp_skip ?_
        refine hK57 _ _ ?_
        clear hK57
        refine wp_seq_k fun K60 hK60 => ?_
        refine wp_block ?_
        refine wp_seq_k fun K61 hK61 => ?_
        have hlf : k < fr.length := by omega
        have hak := atN_le bs k
        refine wp_region_lit ?_
        refine q_val rfl rfl ?_
        refine g_move rfl s0 ?_
        intro a35 p35
        have s61 : a35.eval (.tmp 61) = .slice A n c := p35.at hs (by decide)
        replace hs := p35.st hs
        refine q_val rfl rfl ?_
        refine g_move rfl ((p35.ne rfl).trans s11) ?_
        intro a36 p36
        have s62 : a36.eval (.tmp 62) = .int .i64 ((k : Nat) : Int) := p36.at hs (by decide)
        replace hs := p36.st hs
        refine q_val rfl rfl ?_
        refine g_call rfl rfl Try.call12 (arr2 ((p36.ne rfl).trans s61) s62) ?_
        refine (at_nat hlen hnc hcm (hr_cc.below hB) k (by omega)).mono ?_
        rintro e w' ⟨rfl, rfl⟩
        refine ⟨_, rfl, ?_⟩
        intro a37 p37
        have s63 : a37.eval (.tmp 63) = .int .i64 ((atN bs (k) : Nat) : Int) := p37.at hs (by decide)
        replace hs := p37.st hs
        refine q_val rfl rfl ?_
        refine g_rem (N := atN bs (k)) (M := 4) rfl s63 rfl (by omega) rfl (by decide) (by decide) ?_
        intro a38 p38
        have s64 : a38.eval (.tmp 64) = .int .i64 (((atN bs (k)) % 4 : Nat) : Int) := p38.at hs (by decide)
        replace hs := p38.st hs
        refine q_val rfl rfl ?_
        refine g_neq rfl s64 rfl ?_
        intro a39 p39
        have s65 : a39.eval (.tmp 65) = .bool (!decide ((((atN bs (k)) % 4 : Nat) : Int) = 0)) := p39.at hs (by decide)
        replace hs := p39.st hs
        refine q_val rfl rfl ?_
        refine g_assign rfl s65 ?_
        intro a40 p40
        have s12 : a40.eval (.tmp 12) = .bool (!decide ((((atN bs (k)) % 4 : Nat) : Int) = 0)) := p40.at hs (by decide)
        replace hs := p40.st hs
        refine wpList_nil ?_
        replace s0 : a40.eval (.tmp 0) = .slice A n c := ((p40.ne rfl).trans ((p39.ne rfl).trans ((p38.ne rfl).trans ((p37.ne rfl).trans ((p36.ne rfl).trans (p35.ne rfl)))))).trans s0
        replace s2 : a40.eval (.tmp 2) = .bool false := ((p40.ne rfl).trans ((p39.ne rfl).trans ((p38.ne rfl).trans ((p37.ne rfl).trans ((p36.ne rfl).trans (p35.ne rfl)))))).trans s2
        replace s3 : a40.eval (.tmp 3) = .slice O os.length co := ((p40.ne rfl).trans ((p39.ne rfl).trans ((p38.ne rfl).trans ((p37.ne rfl).trans ((p36.ne rfl).trans (p35.ne rfl)))))).trans s3
        replace s5 : a40.eval (.tmp 5) = .slice FI os.length cf := ((p40.ne rfl).trans ((p39.ne rfl).trans ((p38.ne rfl).trans ((p37.ne rfl).trans ((p36.ne rfl).trans (p35.ne rfl)))))).trans s5
        replace s8 : a40.eval (.tmp 8) = .slice G41 fr.length g41 := ((p40.ne rfl).trans ((p39.ne rfl).trans ((p38.ne rfl).trans ((p37.ne rfl).trans ((p36.ne rfl).trans (p35.ne rfl)))))).trans s8
        replace s9 : a40.eval (.tmp 9) = .slice KP nk ck := ((p40.ne rfl).trans ((p39.ne rfl).trans ((p38.ne rfl).trans ((p37.ne rfl).trans ((p36.ne rfl).trans (p35.ne rfl)))))).trans s9
        replace s10 : a40.eval (.tmp 10) = .slice TH k ct := ((p40.ne rfl).trans ((p39.ne rfl).trans ((p38.ne rfl).trans ((p37.ne rfl).trans ((p36.ne rfl).trans (p35.ne rfl)))))).trans s10
        replace s11 : a40.eval (.tmp 11) = .int .i64 ((k : Nat) : Int) := ((p40.ne rfl).trans ((p39.ne rfl).trans ((p38.ne rfl).trans ((p37.ne rfl).trans ((p36.ne rfl).trans (p35.ne rfl)))))).trans s11
        replace s58 : a40.eval (.tmp 58) = .bool true := ((p40.ne rfl).trans ((p39.ne rfl).trans ((p38.ne rfl).trans ((p37.ne rfl).trans ((p36.ne rfl).trans (p35.ne rfl)))))).trans s58
        refine hK61 _ _ ?_
        clear hK61
        refine wp_seq_k fun K62 hK62 => ?_
        replace s12 : a40.eval (.tmp 12) = .bool (tOf bs k) := s12
        refine wp_region_lit ?_
        refine q_val rfl rfl ?_
        refine g_move rfl s10 ?_
        intro a41 p41
        have s66 : a41.eval (.tmp 66) = .slice TH k ct := p41.at hs (by decide)
        replace hs := p41.st hs
        refine q_val rfl rfl ?_
        refine g_move rfl ((p41.ne rfl).trans s12) ?_
        intro a42 p42
        have s67 : a42.eval (.tmp 67) = .bool (tOf bs k) := p42.at hs (by decide)
        replace hs := p42.st hs
        refine q_val rfl rfl ?_
        refine g_bslice1 (cs := #[.bool (tOf bs k)]) rfl Try.underlying37 Try.sizeOf4 Try.zeroValue4 s67 (by kernel_rfl) rfl (by decide) ?_
        intro q63 w64 N_q63
        have n_q9_q63 := N_q63.ne ⟨lt_of_block h_q9⟩
        have n_q63_q9 := n_q9_q63.symm
        have n_q43_q63 := N_q63.ne ⟨lt_of_block h_q43⟩
        have n_q63_q43 := n_q43_q63.symm
        have d_os_q63 := own_ne_new o_os N_q63
        have d_e_q63 := own_ne_new o_e N_q63
        have d_fi_q63 := own_ne_new o_fi N_q63
        have d_x39_q63 := own_ne_new o_x39 N_q63
        have d_x41_q63 := own_ne_new o_x41 N_q63
        have d_f41_q63 := own_ne_new o_f41 N_q63
        have d_kp_q63 := own_ne_new o_kp N_q63
        have d_th_q63 := own_ne_new o_th N_q63
        have g_q63 : GeB w.heap.size q63 := ⟨Nat.le_trans hB.size N_q63.lo⟩
        replace h_q9 := keep_below h_q9 N_q63.below
        replace h_q43 := keep_below h_q43 N_q63.below
        replace o_os := own_below o_os N_q63.below
        replace o_e := own_below o_e N_q63.below
        replace o_fi := own_below o_fi N_q63.below
        replace o_x39 := own_below o_x39 N_q63.below
        replace o_x41 := own_below o_x41 N_q63.below
        replace o_f41 := own_below o_f41 N_q63.below
        replace o_kp := own_below o_kp N_q63.below
        replace o_th := own_below o_th N_q63.below
        replace hB := below_new hB hB.size N_q63
        have h_q63 := N_q63.here
        clear N_q63
        intro a43 p43
        have s68 : a43.eval (.tmp 68) = .slice (some ⟨q63, 0, none⟩) 1 1 := p43.at hs (by decide)
        replace hs := p43.st hs
        refine q_val rfl rfl ?_
        refine g_append (n' := k + 1) (ys := ((tsL (tOf bs) k) ++ [tOf bs k]).flatMap cT) w.heap.size (.bool false) 1 1 rfl (((p43.ne rfl).trans (p42.ne rfl)).trans s66) s68 Try.underlying37 infoT rfl (by decide) o_th (fun h => by cases h) (rd_box (xs := ([tOf bs k]).flatMap cT) h_q63 rfl rfl) (flatT_one _) (by omega) hB.size (by decide) (by omega) (by first | rfl | simp [List.flatMap_append] | (simp [List.flatMap_append, cT]; done)) ?_
        intro A_r65 c_r65 w66 P_r65
        have d_r65_q9 := P_r65.ne d_th_q9 (lt_of_block h_q9)
        have d_r65_q43 := P_r65.ne d_th_q43 (lt_of_block h_q43)
        have d_r65_q63 := P_r65.ne d_th_q63 (lt_of_block h_q63)
        have m_os_r65 := P_r65.row m_os_th o_os
        have m_r65_os := ne_row_symm m_os_r65
        have m_e_r65 := P_r65.row m_e_th o_e
        have m_r65_e := ne_row_symm m_e_r65
        have m_fi_r65 := P_r65.row m_fi_th o_fi
        have m_r65_fi := ne_row_symm m_fi_r65
        have m_x39_r65 := P_r65.row m_x39_th o_x39
        have m_r65_x39 := ne_row_symm m_x39_r65
        have m_x41_r65 := P_r65.row m_x41_th o_x41
        have m_r65_x41 := ne_row_symm m_x41_r65
        have m_f41_r65 := P_r65.row m_f41_th o_f41
        have m_r65_f41 := ne_row_symm m_f41_r65
        have m_kp_r65 := P_r65.row m_kp_th o_kp
        have m_r65_kp := ne_row_symm m_kp_r65
        have g_r65 := P_r65.ge g_th hB.size
        replace h_q9 := keep_grown h_q9 P_r65.grown d_th_q9
        replace h_q43 := keep_grown h_q43 P_r65.grown d_th_q43
        replace h_q63 := keep_grown h_q63 P_r65.grown d_th_q63
        replace o_os := own_grown o_os P_r65.grown m_os_th
        replace o_e := own_grown o_e P_r65.grown m_e_th
        replace o_fi := own_grown o_fi P_r65.grown m_fi_th
        replace o_x39 := own_grown o_x39 P_r65.grown m_x39_th
        replace o_x41 := own_grown o_x41 P_r65.grown m_x41_th
        replace o_f41 := own_grown o_f41 P_r65.grown m_f41_th
        replace o_kp := own_grown o_kp P_r65.grown m_kp_th
        replace hB := below_grown hB hB.size P_r65.grown g_th
        have o_r65 := P_r65.own
        clear P_r65
        intro a44 p44
        have s69 : a44.eval (.tmp 69) = .slice A_r65 (k + 1) c_r65 := p44.at hs (by decide)
        replace hs := p44.st hs
        refine q_val rfl rfl ?_
        refine g_assign rfl s69 ?_
        intro a45 p45
        have s10 : a45.eval (.tmp 10) = .slice A_r65 (k + 1) c_r65 := p45.at hs (by decide)
        replace hs := p45.st hs
        refine wpList_nil ?_
        replace s0 : a45.eval (.tmp 0) = .slice A n c := ((p45.ne rfl).trans ((p44.ne rfl).trans ((p43.ne rfl).trans ((p42.ne rfl).trans (p41.ne rfl))))).trans s0
        replace s2 : a45.eval (.tmp 2) = .bool false := ((p45.ne rfl).trans ((p44.ne rfl).trans ((p43.ne rfl).trans ((p42.ne rfl).trans (p41.ne rfl))))).trans s2
        replace s3 : a45.eval (.tmp 3) = .slice O os.length co := ((p45.ne rfl).trans ((p44.ne rfl).trans ((p43.ne rfl).trans ((p42.ne rfl).trans (p41.ne rfl))))).trans s3
        replace s5 : a45.eval (.tmp 5) = .slice FI os.length cf := ((p45.ne rfl).trans ((p44.ne rfl).trans ((p43.ne rfl).trans ((p42.ne rfl).trans (p41.ne rfl))))).trans s5
        replace s8 : a45.eval (.tmp 8) = .slice G41 fr.length g41 := ((p45.ne rfl).trans ((p44.ne rfl).trans ((p43.ne rfl).trans ((p42.ne rfl).trans (p41.ne rfl))))).trans s8
        replace s9 : a45.eval (.tmp 9) = .slice KP nk ck := ((p45.ne rfl).trans ((p44.ne rfl).trans ((p43.ne rfl).trans ((p42.ne rfl).trans (p41.ne rfl))))).trans s9
        replace s11 : a45.eval (.tmp 11) = .int .i64 ((k : Nat) : Int) := ((p45.ne rfl).trans ((p44.ne rfl).trans ((p43.ne rfl).trans ((p42.ne rfl).trans (p41.ne rfl))))).trans s11
        replace s58 : a45.eval (.tmp 58) = .bool true := ((p45.ne rfl).trans ((p44.ne rfl).trans ((p43.ne rfl).trans ((p42.ne rfl).trans (p41.ne rfl))))).trans s58
        replace s12 : a45.eval (.tmp 12) = .bool (tOf bs k) := ((p45.ne rfl).trans ((p44.ne rfl).trans ((p43.ne rfl).trans ((p42.ne rfl).trans (p41.ne rfl))))).trans s12
        refine hK62 _ _ ?_
        clear hK62
        refine wp_seq_k fun K67 hK67 => ?_
        refine wp_region_lit ?_
        refine q_val rfl rfl ?_
        refine g_move rfl s12 ?_
        intro a46 p46
        have s70 : a46.eval (.tmp 70) = .bool (tOf bs k) := p46.at hs (by decide)
        replace hs := p46.st hs
        refine wpList_nil ?_
        replace s0 : a46.eval (.tmp 0) = .slice A n c := (p46.ne rfl).trans s0
        replace s2 : a46.eval (.tmp 2) = .bool false := (p46.ne rfl).trans s2
        replace s3 : a46.eval (.tmp 3) = .slice O os.length co := (p46.ne rfl).trans s3
        replace s5 : a46.eval (.tmp 5) = .slice FI os.length cf := (p46.ne rfl).trans s5
        replace s8 : a46.eval (.tmp 8) = .slice G41 fr.length g41 := (p46.ne rfl).trans s8
        replace s9 : a46.eval (.tmp 9) = .slice KP nk ck := (p46.ne rfl).trans s9
        replace s10 : a46.eval (.tmp 10) = .slice A_r65 (k + 1) c_r65 := (p46.ne rfl).trans s10
        replace s11 : a46.eval (.tmp 11) = .int .i64 ((k : Nat) : Int) := (p46.ne rfl).trans s11
        replace s58 : a46.eval (.tmp 58) = .bool true := (p46.ne rfl).trans s58
        replace s12 : a46.eval (.tmp 12) = .bool (tOf bs k) := (p46.ne rfl).trans s12
        refine hK67 _ _ ?_
        clear hK67
        cases hkeep : tOf bs k
        · replace s12 := s12.trans (congrArg Value.bool hkeep)
          replace s12 : a46.eval (.tmp 12) = .bool false := s12
          replace s70 := s70.trans (congrArg Value.bool hkeep)
          replace s70 : a46.eval (.tmp 70) = .bool false := s70
          refine c_false s70 ?_
          refine wp_skip ?_
          refine hK60 _ _ ?_
          clear hK60
          refine wp_region_lit ?_
          refine q_val rfl rfl ?_
          refine g_move rfl s11 ?_
          intro a47 p47
          have s59 : a47.eval (.tmp 59) = .int .i64 ((k : Nat) : Int) := p47.at hs (by decide)
          replace hs := p47.st hs
          refine q_val rfl rfl ?_
          refine g_add (r := ((k + 1 : Nat) : Int)) rfl s59 rfl (by omega) (by omega) ?_
          intro a48 p48
          have s60 : a48.eval (.tmp 60) = .int .i64 ((k + 1 : Nat) : Int) := p48.at hs (by decide)
          replace hs := p48.st hs
          refine q_val rfl rfl ?_
          refine g_assign rfl s60 ?_
          intro a49 p49
          have s11 : a49.eval (.tmp 11) = .int .i64 ((k + 1 : Nat) : Int) := p49.at hs (by decide)
          replace hs := p49.st hs
          refine wpList_nil ?_
          replace s0 : a49.eval (.tmp 0) = .slice A n c := ((p49.ne rfl).trans ((p48.ne rfl).trans (p47.ne rfl))).trans s0
          replace s2 : a49.eval (.tmp 2) = .bool false := ((p49.ne rfl).trans ((p48.ne rfl).trans (p47.ne rfl))).trans s2
          replace s3 : a49.eval (.tmp 3) = .slice O os.length co := ((p49.ne rfl).trans ((p48.ne rfl).trans (p47.ne rfl))).trans s3
          replace s5 : a49.eval (.tmp 5) = .slice FI os.length cf := ((p49.ne rfl).trans ((p48.ne rfl).trans (p47.ne rfl))).trans s5
          replace s8 : a49.eval (.tmp 8) = .slice G41 fr.length g41 := ((p49.ne rfl).trans ((p48.ne rfl).trans (p47.ne rfl))).trans s8
          replace s9 : a49.eval (.tmp 9) = .slice KP nk ck := ((p49.ne rfl).trans ((p48.ne rfl).trans (p47.ne rfl))).trans s9
          replace s10 : a49.eval (.tmp 10) = .slice A_r65 (k + 1) c_r65 := ((p49.ne rfl).trans ((p48.ne rfl).trans (p47.ne rfl))).trans s10
          replace s58 : a49.eval (.tmp 58) = .bool true := ((p49.ne rfl).trans ((p48.ne rfl).trans (p47.ne rfl))).trans s58
          replace s12 : a49.eval (.tmp 12) = .bool false := ((p49.ne rfl).trans ((p48.ne rfl).trans (p47.ne rfl))).trans s12
          replace s70 : a49.eval (.tmp 70) = .bool false := ((p49.ne rfl).trans ((p48.ne rfl).trans (p47.ne rfl))).trans s70
          rw [tsL_snoc] at o_r65
          rw [kept_no hkeep] at o_kp
          have o_th := o_r65
          have g_th := g_r65
          have d_th_q9 := d_r65_q9
          have d_th_q43 := d_r65_q43
          have m_os_th := m_os_r65
          have m_th_os := m_r65_os
          have m_e_th := m_e_r65
          have m_th_e := m_r65_e
          have m_fi_th := m_fi_r65
          have m_th_fi := m_r65_fi
          have m_x39_th := m_x39_r65
          have m_th_x39 := m_r65_x39
          have m_x41_th := m_x41_r65
          have m_th_x41 := m_r65_x41
          have m_f41_th := m_f41_r65
          have m_th_f41 := m_r65_f41
          have m_kp_th := m_kp_r65
          have m_th_kp := m_r65_kp
          refine show _ ∧ _ from ⟨⟨k + 1, _, _, _, _, _, hs, s0, s2, s3, s5, s8, s9, s10, s11, hB, h_q9, h_q43, o_os, o_e, o_fi, o_x39, o_x41, o_f41, o_kp, o_th, d_kp_q9, d_kp_q43, m_os_kp, m_kp_os, m_e_kp, m_kp_e, m_fi_kp, m_kp_fi, m_x39_kp, m_kp_x39, m_x41_kp, m_kp_x41, m_f41_kp, m_kp_f41, m_th_kp, g_kp, d_th_q9, d_th_q43, m_os_th, m_th_os, m_e_th, m_th_e, m_fi_th, m_th_fi, m_x39_th, m_th_x39, m_x41_th, m_th_x41, m_f41_th, m_th_f41, m_kp_th, g_th, (by omega), (by rw [← kept_no hkeep]; exact hnk)⟩, ?_⟩
          show N - (intOf (a49.eval (.tmp 11))).toNat < N - (intOf (a30.eval (.tmp 11))).toNat
          rw [s11, mu56]
          simp only [intOf]
          omega
        · replace s12 := s12.trans (congrArg Value.bool hkeep)
          replace s12 : a46.eval (.tmp 12) = .bool true := s12
          replace s70 := s70.trans (congrArg Value.bool hkeep)
          replace s70 : a46.eval (.tmp 70) = .bool true := s70
          refine c_true s70 ?_
          refine wp_region_lit ?_
          refine q_val rfl rfl ?_
          refine g_move rfl s9 ?_
          intro a47 p47
          have s71 : a47.eval (.tmp 71) = .slice KP nk ck := p47.at hs (by decide)
          replace hs := p47.st hs
          refine q_val rfl rfl ?_
          refine g_move rfl ((p47.ne rfl).trans s8) ?_
          intro a48 p48
          have s72 : a48.eval (.tmp 72) = .slice G41 fr.length g41 := p48.at hs (by decide)
          replace hs := p48.st hs
          refine q_val rfl rfl ?_
          refine g_move rfl (((p48.ne rfl).trans (p47.ne rfl)).trans s11) ?_
          intro a49 p49
          have s73 : a49.eval (.tmp 73) = .int .i64 ((k : Nat) : Int) := p49.at hs (by decide)
          replace hs := p49.st hs
          obtain ⟨b68, o69, hA70, hl_hc71, hc71⟩ := Rd.get cFrame_len (Rd.of_own o_f41) rfl (i := k) (by omega)
          refine q_val rfl rfl ?_
          refine g_index (r := o69 + k * 4) (k := k) rfl (((p49.ne rfl).trans s72).trans (slice_at hA70)) s73 Try.underlying33 (fun w => Try.sizeOf40 w) (by omega) rfl ?_
          intro a50 p50
          have s74 : a50.eval (.tmp 74) = .pointer (some ⟨b68, o69 + k * 4, none⟩) := p50.at hs (by decide)
          replace hs := p50.st hs
          refine q_val rfl rfl ?_
          refine g_loadA (l := cFrame fr[k]) rfl s74 Try.isAgg40 Try.sizeOf40 rfl (fun j u hu => by rw [Nat.add_assoc]; exact hc71 j u (by have := (List.getElem?_eq_some_iff.1 hu).1; exact this) hu) ?_
          intro a51 p51
          have s75 : a51.eval (.tmp 75) = .agg #[.int .i64 (fr[k].f0), .int .i64 (fr[k].f1), .int .i64 (fr[k].f2), .string ⟨(fr[k].f3).toArray⟩] := p51.at hs (by decide)
          replace hs := p51.st hs
          refine q_val rfl rfl ?_
          refine g_bslice1 (cs := #[.int .i64 (fr[k].f0), .int .i64 (fr[k].f1), .int .i64 (fr[k].f2), .string ⟨(fr[k].f3).toArray⟩]) rfl Try.underlying33 Try.sizeOf40 Try.zeroValue40 s75 (by kernel_rfl) rfl (by decide) ?_
          intro q72 w73 N_q72
          have n_q9_q72 := N_q72.ne ⟨lt_of_block h_q9⟩
          have n_q72_q9 := n_q9_q72.symm
          have n_q43_q72 := N_q72.ne ⟨lt_of_block h_q43⟩
          have n_q72_q43 := n_q43_q72.symm
          have n_q63_q72 := N_q72.ne ⟨lt_of_block h_q63⟩
          have n_q72_q63 := n_q63_q72.symm
          have d_os_q72 := own_ne_new o_os N_q72
          have d_e_q72 := own_ne_new o_e N_q72
          have d_fi_q72 := own_ne_new o_fi N_q72
          have d_x39_q72 := own_ne_new o_x39 N_q72
          have d_x41_q72 := own_ne_new o_x41 N_q72
          have d_f41_q72 := own_ne_new o_f41 N_q72
          have d_kp_q72 := own_ne_new o_kp N_q72
          have d_r65_q72 := own_ne_new o_r65 N_q72
          have g_q72 : GeB w.heap.size q72 := ⟨Nat.le_trans hB.size N_q72.lo⟩
          replace h_q9 := keep_below h_q9 N_q72.below
          replace h_q43 := keep_below h_q43 N_q72.below
          replace h_q63 := keep_below h_q63 N_q72.below
          replace o_os := own_below o_os N_q72.below
          replace o_e := own_below o_e N_q72.below
          replace o_fi := own_below o_fi N_q72.below
          replace o_x39 := own_below o_x39 N_q72.below
          replace o_x41 := own_below o_x41 N_q72.below
          replace o_f41 := own_below o_f41 N_q72.below
          replace o_kp := own_below o_kp N_q72.below
          replace o_r65 := own_below o_r65 N_q72.below
          replace hB := below_new hB hB.size N_q72
          have h_q72 := N_q72.here
          clear N_q72
          intro a52 p52
          have s76 : a52.eval (.tmp 76) = .slice (some ⟨q72, 0, none⟩) 1 1 := p52.at hs (by decide)
          replace hs := p52.st hs
          refine q_val rfl rfl ?_
          refine g_append (n' := nk + 1) (ys := ((keptF (tOf bs) (os ++ I39) 0 0 k) ++ ([fr[k]])).flatMap cFrame) w.heap.size (.agg #[.int .i64 0, .int .i64 0, .int .i64 0, .string ⟨#[]⟩]) 4 40 rfl (((p52.ne rfl).trans ((p51.ne rfl).trans ((p50.ne rfl).trans ((p49.ne rfl).trans (p48.ne rfl))))).trans s71) s76 Try.underlying33 infoFrame rfl (by decide) o_kp (fun h => by cases h) (rd_box (xs := ([fr[k]]).flatMap cFrame) h_q72 rfl rfl) (flatFrame_one _) (by omega) hB.size (by decide) (by omega) (by first | rfl | simp [List.flatMap_append] | (simp [List.flatMap_append, cFrame]; done)) ?_
          intro A_r74 c_r74 w75 P_r74
          have d_r74_q9 := P_r74.ne d_kp_q9 (lt_of_block h_q9)
          have d_r74_q43 := P_r74.ne d_kp_q43 (lt_of_block h_q43)
          have d_r74_q63 := P_r74.ne d_kp_q63 (lt_of_block h_q63)
          have d_r74_q72 := P_r74.ne d_kp_q72 (lt_of_block h_q72)
          have m_os_r74 := P_r74.row m_os_kp o_os
          have m_r74_os := ne_row_symm m_os_r74
          have m_e_r74 := P_r74.row m_e_kp o_e
          have m_r74_e := ne_row_symm m_e_r74
          have m_fi_r74 := P_r74.row m_fi_kp o_fi
          have m_r74_fi := ne_row_symm m_fi_r74
          have m_x39_r74 := P_r74.row m_x39_kp o_x39
          have m_r74_x39 := ne_row_symm m_x39_r74
          have m_x41_r74 := P_r74.row m_x41_kp o_x41
          have m_r74_x41 := ne_row_symm m_x41_r74
          have m_f41_r74 := P_r74.row m_f41_kp o_f41
          have m_r74_f41 := ne_row_symm m_f41_r74
          have m_r65_r74 := P_r74.row m_r65_kp o_r65
          have m_r74_r65 := ne_row_symm m_r65_r74
          have g_r74 := P_r74.ge g_kp hB.size
          replace h_q9 := keep_grown h_q9 P_r74.grown d_kp_q9
          replace h_q43 := keep_grown h_q43 P_r74.grown d_kp_q43
          replace h_q63 := keep_grown h_q63 P_r74.grown d_kp_q63
          replace h_q72 := keep_grown h_q72 P_r74.grown d_kp_q72
          replace o_os := own_grown o_os P_r74.grown m_os_kp
          replace o_e := own_grown o_e P_r74.grown m_e_kp
          replace o_fi := own_grown o_fi P_r74.grown m_fi_kp
          replace o_x39 := own_grown o_x39 P_r74.grown m_x39_kp
          replace o_x41 := own_grown o_x41 P_r74.grown m_x41_kp
          replace o_f41 := own_grown o_f41 P_r74.grown m_f41_kp
          replace o_r65 := own_grown o_r65 P_r74.grown m_r65_kp
          replace hB := below_grown hB hB.size P_r74.grown g_kp
          have o_r74 := P_r74.own
          clear P_r74
          intro a53 p53
          have s77 : a53.eval (.tmp 77) = .slice A_r74 (nk + 1) c_r74 := p53.at hs (by decide)
          replace hs := p53.st hs
          refine q_val rfl rfl ?_
          refine g_assign rfl s77 ?_
          intro a54 p54
          have s9 : a54.eval (.tmp 9) = .slice A_r74 (nk + 1) c_r74 := p54.at hs (by decide)
          replace hs := p54.st hs
          refine wpList_nil ?_
          replace s0 : a54.eval (.tmp 0) = .slice A n c := ((p54.ne rfl).trans ((p53.ne rfl).trans ((p52.ne rfl).trans ((p51.ne rfl).trans ((p50.ne rfl).trans ((p49.ne rfl).trans ((p48.ne rfl).trans (p47.ne rfl)))))))).trans s0
          replace s2 : a54.eval (.tmp 2) = .bool false := ((p54.ne rfl).trans ((p53.ne rfl).trans ((p52.ne rfl).trans ((p51.ne rfl).trans ((p50.ne rfl).trans ((p49.ne rfl).trans ((p48.ne rfl).trans (p47.ne rfl)))))))).trans s2
          replace s3 : a54.eval (.tmp 3) = .slice O os.length co := ((p54.ne rfl).trans ((p53.ne rfl).trans ((p52.ne rfl).trans ((p51.ne rfl).trans ((p50.ne rfl).trans ((p49.ne rfl).trans ((p48.ne rfl).trans (p47.ne rfl)))))))).trans s3
          replace s5 : a54.eval (.tmp 5) = .slice FI os.length cf := ((p54.ne rfl).trans ((p53.ne rfl).trans ((p52.ne rfl).trans ((p51.ne rfl).trans ((p50.ne rfl).trans ((p49.ne rfl).trans ((p48.ne rfl).trans (p47.ne rfl)))))))).trans s5
          replace s8 : a54.eval (.tmp 8) = .slice G41 fr.length g41 := ((p54.ne rfl).trans ((p53.ne rfl).trans ((p52.ne rfl).trans ((p51.ne rfl).trans ((p50.ne rfl).trans ((p49.ne rfl).trans ((p48.ne rfl).trans (p47.ne rfl)))))))).trans s8
          replace s10 : a54.eval (.tmp 10) = .slice A_r65 (k + 1) c_r65 := ((p54.ne rfl).trans ((p53.ne rfl).trans ((p52.ne rfl).trans ((p51.ne rfl).trans ((p50.ne rfl).trans ((p49.ne rfl).trans ((p48.ne rfl).trans (p47.ne rfl)))))))).trans s10
          replace s11 : a54.eval (.tmp 11) = .int .i64 ((k : Nat) : Int) := ((p54.ne rfl).trans ((p53.ne rfl).trans ((p52.ne rfl).trans ((p51.ne rfl).trans ((p50.ne rfl).trans ((p49.ne rfl).trans ((p48.ne rfl).trans (p47.ne rfl)))))))).trans s11
          replace s58 : a54.eval (.tmp 58) = .bool true := ((p54.ne rfl).trans ((p53.ne rfl).trans ((p52.ne rfl).trans ((p51.ne rfl).trans ((p50.ne rfl).trans ((p49.ne rfl).trans ((p48.ne rfl).trans (p47.ne rfl)))))))).trans s58
          replace s12 : a54.eval (.tmp 12) = .bool true := ((p54.ne rfl).trans ((p53.ne rfl).trans ((p52.ne rfl).trans ((p51.ne rfl).trans ((p50.ne rfl).trans ((p49.ne rfl).trans ((p48.ne rfl).trans (p47.ne rfl)))))))).trans s12
          replace s70 : a54.eval (.tmp 70) = .bool true := ((p54.ne rfl).trans ((p53.ne rfl).trans ((p52.ne rfl).trans ((p51.ne rfl).trans ((p50.ne rfl).trans ((p49.ne rfl).trans ((p48.ne rfl).trans (p47.ne rfl)))))))).trans s70
          refine hK60 _ _ ?_
          clear hK60
          refine wp_region_lit ?_
          refine q_val rfl rfl ?_
          refine g_move rfl s11 ?_
          intro a55 p55
          have s59 : a55.eval (.tmp 59) = .int .i64 ((k : Nat) : Int) := p55.at hs (by decide)
          replace hs := p55.st hs
          refine q_val rfl rfl ?_
          refine g_add (r := ((k + 1 : Nat) : Int)) rfl s59 rfl (by omega) (by omega) ?_
          intro a56 p56
          have s60 : a56.eval (.tmp 60) = .int .i64 ((k + 1 : Nat) : Int) := p56.at hs (by decide)
          replace hs := p56.st hs
          refine q_val rfl rfl ?_
          refine g_assign rfl s60 ?_
          intro a57 p57
          have s11 : a57.eval (.tmp 11) = .int .i64 ((k + 1 : Nat) : Int) := p57.at hs (by decide)
          replace hs := p57.st hs
          refine wpList_nil ?_
          replace s0 : a57.eval (.tmp 0) = .slice A n c := ((p57.ne rfl).trans ((p56.ne rfl).trans (p55.ne rfl))).trans s0
          replace s2 : a57.eval (.tmp 2) = .bool false := ((p57.ne rfl).trans ((p56.ne rfl).trans (p55.ne rfl))).trans s2
          replace s3 : a57.eval (.tmp 3) = .slice O os.length co := ((p57.ne rfl).trans ((p56.ne rfl).trans (p55.ne rfl))).trans s3
          replace s5 : a57.eval (.tmp 5) = .slice FI os.length cf := ((p57.ne rfl).trans ((p56.ne rfl).trans (p55.ne rfl))).trans s5
          replace s8 : a57.eval (.tmp 8) = .slice G41 fr.length g41 := ((p57.ne rfl).trans ((p56.ne rfl).trans (p55.ne rfl))).trans s8
          replace s9 : a57.eval (.tmp 9) = .slice A_r74 (nk + 1) c_r74 := ((p57.ne rfl).trans ((p56.ne rfl).trans (p55.ne rfl))).trans s9
          replace s10 : a57.eval (.tmp 10) = .slice A_r65 (k + 1) c_r65 := ((p57.ne rfl).trans ((p56.ne rfl).trans (p55.ne rfl))).trans s10
          replace s58 : a57.eval (.tmp 58) = .bool true := ((p57.ne rfl).trans ((p56.ne rfl).trans (p55.ne rfl))).trans s58
          replace s12 : a57.eval (.tmp 12) = .bool true := ((p57.ne rfl).trans ((p56.ne rfl).trans (p55.ne rfl))).trans s12
          replace s70 : a57.eval (.tmp 70) = .bool true := ((p57.ne rfl).trans ((p56.ne rfl).trans (p55.ne rfl))).trans s70
          rw [tsL_snoc] at o_r65
          rw [kept_yes hfr hlf hkeep] at o_r74
          have o_kp := o_r74
          have g_kp := g_r74
          have d_kp_q9 := d_r74_q9
          have d_kp_q43 := d_r74_q43
          have m_os_kp := m_os_r74
          have m_kp_os := m_r74_os
          have m_e_kp := m_e_r74
          have m_kp_e := m_r74_e
          have m_fi_kp := m_fi_r74
          have m_kp_fi := m_r74_fi
          have m_x39_kp := m_x39_r74
          have m_kp_x39 := m_r74_x39
          have m_x41_kp := m_x41_r74
          have m_kp_x41 := m_r74_x41
          have m_f41_kp := m_f41_r74
          have m_kp_f41 := m_r74_f41
          have m_th_kp := m_r65_r74
          have m_kp_th := m_r74_r65
          have o_th := o_r65
          have g_th := g_r65
          have d_th_q9 := d_r65_q9
          have d_th_q43 := d_r65_q43
          have m_os_th := m_os_r65
          have m_th_os := m_r65_os
          have m_e_th := m_e_r65
          have m_th_e := m_r65_e
          have m_fi_th := m_fi_r65
          have m_th_fi := m_r65_fi
          have m_x39_th := m_x39_r65
          have m_th_x39 := m_r65_x39
          have m_x41_th := m_x41_r65
          have m_th_x41 := m_r65_x41
          have m_f41_th := m_f41_r65
          have m_th_f41 := m_r65_f41
          have m_kp_th := m_r74_r65
          have m_th_kp := m_r65_r74
          refine show _ ∧ _ from ⟨⟨k + 1, _, _, _, _, _, hs, s0, s2, s3, s5, s8, s9, s10, s11, hB, h_q9, h_q43, o_os, o_e, o_fi, o_x39, o_x41, o_f41, o_kp, o_th, d_kp_q9, d_kp_q43, m_os_kp, m_kp_os, m_e_kp, m_kp_e, m_fi_kp, m_kp_fi, m_x39_kp, m_kp_x39, m_x41_kp, m_kp_x41, m_f41_kp, m_kp_f41, m_th_kp, g_kp, d_th_q9, d_th_q43, m_os_th, m_th_os, m_e_th, m_th_e, m_fi_th, m_th_fi, m_x39_th, m_th_x39, m_x41_th, m_th_x41, m_f41_th, m_th_f41, m_kp_th, g_th, (by omega), (by rw [← kept_yes hfr hlf hkeep, List.length_append, hnk]; rfl)⟩, ?_⟩
          show N - (intOf (a57.eval (.tmp 11))).toNat < N - (intOf (a30.eval (.tmp 11))).toNat
          rw [s11, mu56]
          simp only [intOf]
          omega
      · replace s58 := s58.trans (congrArg Value.bool (decide_eq_false hc59))
        replace s58 : a34.eval (.tmp 58) = .bool false := s58
        refine c_false s58 ?_
        refine wp_exit ?_
        refine hK52 _ _ ?_
        clear hK52
        refine wp_seq_k fun K76 hK76 => ?_
        have hkz : k = N := by omega
        subst k
        have ha0 := fiL_at os os.length
        refine wp_region_lit ?_
        refine q_val rfl rfl ?_
        refine g_bslice0 rfl Try.underlying24 Try.sizeOf32 ?_
        intro q77 w78 N_q77
        have n_q9_q77 := N_q77.ne ⟨lt_of_block h_q9⟩
        have n_q77_q9 := n_q9_q77.symm
        have n_q43_q77 := N_q77.ne ⟨lt_of_block h_q43⟩
        have n_q77_q43 := n_q43_q77.symm
        have d_os_q77 := own_ne_new o_os N_q77
        have d_e_q77 := own_ne_new o_e N_q77
        have d_fi_q77 := own_ne_new o_fi N_q77
        have d_x39_q77 := own_ne_new o_x39 N_q77
        have d_x41_q77 := own_ne_new o_x41 N_q77
        have d_f41_q77 := own_ne_new o_f41 N_q77
        have d_kp_q77 := own_ne_new o_kp N_q77
        have d_th_q77 := own_ne_new o_th N_q77
        have g_q77 : GeB w.heap.size q77 := ⟨Nat.le_trans hB.size N_q77.lo⟩
        replace h_q9 := keep_below h_q9 N_q77.below
        replace h_q43 := keep_below h_q43 N_q77.below
        replace o_os := own_below o_os N_q77.below
        replace o_e := own_below o_e N_q77.below
        replace o_fi := own_below o_fi N_q77.below
        replace o_x39 := own_below o_x39 N_q77.below
        replace o_x41 := own_below o_x41 N_q77.below
        replace o_f41 := own_below o_f41 N_q77.below
        replace o_kp := own_below o_kp N_q77.below
        replace o_th := own_below o_th N_q77.below
        replace hB := below_new hB hB.size N_q77
        have h_q77 := N_q77.here
        clear N_q77
        intro a35 p35
        have s78 : a35.eval (.tmp 78) = .slice (some ⟨q77, 0, none⟩) 0 0 := p35.at hs (by decide)
        replace hs := p35.st hs
        refine q_val rfl rfl ?_
        refine g_assign rfl s78 ?_
        intro a36 p36
        have s13 : a36.eval (.tmp 13) = .slice (some ⟨q77, 0, none⟩) 0 0 := p36.at hs (by decide)
        replace hs := p36.st hs
        refine wpList_nil ?_
        replace s2 : a36.eval (.tmp 2) = .bool false := ((p36.ne rfl).trans (p35.ne rfl)).trans s2
        replace s3 : a36.eval (.tmp 3) = .slice O os.length co := ((p36.ne rfl).trans (p35.ne rfl)).trans s3
        replace s5 : a36.eval (.tmp 5) = .slice FI os.length cf := ((p36.ne rfl).trans (p35.ne rfl)).trans s5
        replace s8 : a36.eval (.tmp 8) = .slice G41 fr.length g41 := ((p36.ne rfl).trans (p35.ne rfl)).trans s8
        replace s9 : a36.eval (.tmp 9) = .slice KP nk ck := ((p36.ne rfl).trans (p35.ne rfl)).trans s9
        replace s10 : a36.eval (.tmp 10) = .slice TH N ct := ((p36.ne rfl).trans (p35.ne rfl)).trans s10
        refine hK76 _ _ ?_
        clear hK76
        refine wp_seq_k fun K79 hK79 => ?_
        refine wp_seq_k fun K80 hK80 => ?_
        refine wp_region_lit ?_
        refine q_val rfl rfl ?_
        refine g_assign rfl rfl ?_
        intro a37 p37
        have s14 : a37.eval (.tmp 14) = .int .i64 0 := p37.at hs (by decide)
        replace hs := p37.st hs
        refine wpList_nil ?_
        replace s2 : a37.eval (.tmp 2) = .bool false := (p37.ne rfl).trans s2
        replace s3 : a37.eval (.tmp 3) = .slice O os.length co := (p37.ne rfl).trans s3
        replace s5 : a37.eval (.tmp 5) = .slice FI os.length cf := (p37.ne rfl).trans s5
        replace s8 : a37.eval (.tmp 8) = .slice G41 fr.length g41 := (p37.ne rfl).trans s8
        replace s9 : a37.eval (.tmp 9) = .slice KP nk ck := (p37.ne rfl).trans s9
        replace s10 : a37.eval (.tmp 10) = .slice TH N ct := (p37.ne rfl).trans s10
        replace s13 : a37.eval (.tmp 13) = .slice (some ⟨q77, 0, none⟩) 0 0 := (p37.ne rfl).trans s13
        refine hK80 _ _ ?_
        clear hK80
        refine wp_block ?_
        have o_wa : w78.ownsRow w.heap.size 32 3 (.slice (some ⟨q77, 0, none⟩) 0 0) 0 ([].flatMap cPacket) := own_box_row (base := w.heap.size) (xs := []) h_q77 g_q77.le rfl (by decide) rfl
        have g_wa : ∀ b, (some ⟨q77, 0, none⟩ : Option Addr).map (·.block) = some b → w.heap.size ≤ b := ge_box g_q77.le
        have d_wa_q9 : (some ⟨q77, 0, none⟩ : Option Addr).map (·.block) ≠ some q9 := neb_map n_q77_q9
        have d_wa_q43 : (some ⟨q77, 0, none⟩ : Option Addr).map (·.block) ≠ some q43 := neb_map n_q77_q43
        have m_os_wa : ∀ b, (O : Option Addr).map (·.block) = some b → (some ⟨q77, 0, none⟩ : Option Addr).map (·.block) ≠ some b := row_ne_box d_os_q77
        have m_wa_os := ne_row_symm m_os_wa
        have m_e_wa : ∀ b, (E : Option Addr).map (·.block) = some b → (some ⟨q77, 0, none⟩ : Option Addr).map (·.block) ≠ some b := row_ne_box d_e_q77
        have m_wa_e := ne_row_symm m_e_wa
        have m_fi_wa : ∀ b, (FI : Option Addr).map (·.block) = some b → (some ⟨q77, 0, none⟩ : Option Addr).map (·.block) ≠ some b := row_ne_box d_fi_q77
        have m_wa_fi := ne_row_symm m_fi_wa
        have m_x39_wa : ∀ b, (A39 : Option Addr).map (·.block) = some b → (some ⟨q77, 0, none⟩ : Option Addr).map (·.block) ≠ some b := row_ne_box d_x39_q77
        have m_wa_x39 := ne_row_symm m_x39_wa
        have m_x41_wa : ∀ b, (A41 : Option Addr).map (·.block) = some b → (some ⟨q77, 0, none⟩ : Option Addr).map (·.block) ≠ some b := row_ne_box d_x41_q77
        have m_wa_x41 := ne_row_symm m_x41_wa
        have m_f41_wa : ∀ b, (G41 : Option Addr).map (·.block) = some b → (some ⟨q77, 0, none⟩ : Option Addr).map (·.block) ≠ some b := row_ne_box d_f41_q77
        have m_wa_f41 := ne_row_symm m_f41_wa
        have m_kp_wa : ∀ b, (KP : Option Addr).map (·.block) = some b → (some ⟨q77, 0, none⟩ : Option Addr).map (·.block) ≠ some b := row_ne_box d_kp_q77
        have m_wa_kp := ne_row_symm m_kp_wa
        have m_th_wa : ∀ b, (TH : Option Addr).map (·.block) = some b → (some ⟨q77, 0, none⟩ : Option Addr).map (·.block) ≠ some b := row_ne_box d_th_q77
        have m_wa_th := ne_row_symm m_th_wa
        refine wp_loop (fun a wr => ∃ (k : Nat) (nw : Nat) (WA : Option Addr) (cw : Nat), (St 154 a) ∧ (a.eval (.tmp 2) = .bool false) ∧ (a.eval (.tmp 3) = .slice O os.length co) ∧ (a.eval (.tmp 5) = .slice FI os.length cf) ∧ (a.eval (.tmp 8) = .slice G41 fr.length g41) ∧ (a.eval (.tmp 9) = .slice KP nk ck) ∧ (a.eval (.tmp 10) = .slice TH N ct) ∧ (a.eval (.tmp 13) = .slice WA nw cw) ∧ (a.eval (.tmp 14) = .int .i64 ((k : Nat) : Int)) ∧ (Below w.heap.size w wr) ∧ (wr.heap[q9]? = some (.cells #[.int .i64 0, .int .i64 0, .string ⟨((flatP os).drop 0).toArray⟩, .slice E ((dsAt os 0).length) ce] 28 (0, 0))) ∧ (wr.heap[q43]? = some (.cells #[.int .i64 0, .int .i64 ((0 + ((0 + N : Nat) : Int)) % 256), .string ⟨((flatP (os ++ I39)).drop (24 * (0 + N))).toArray⟩, .slice A41 ((dsAt (os ++ I39) (24 * (0 + N))).length) c41] 28 (0, 0))) ∧ (wr.ownsRow w.heap.size 32 3 (.slice O os.length co) os.length (os.flatMap cPacket)) ∧ (wr.ownsRow w.heap.size 3 1 (.slice E ((dsAt os 0).length) ce) ((dsAt os 0).length) ((dsAt os 0).flatMap cI)) ∧ (wr.ownsRow w.heap.size 3 1 (.slice FI os.length cf) os.length ((fiL os os.length).flatMap cI)) ∧ (wr.ownsRow w.heap.size 3 1 (.slice A39 ((dsAt (os ++ I39) 0).length) c39) ((dsAt (os ++ I39) 0).length) ((dsAt (os ++ I39) 0).flatMap cI)) ∧ (wr.ownsRow w.heap.size 3 1 (.slice A41 ((dsAt (os ++ I39) (24 * (0 + N))).length) c41) ((dsAt (os ++ I39) (24 * (0 + N))).length) ((dsAt (os ++ I39) (24 * (0 + N))).flatMap cI)) ∧ (wr.ownsRow w.heap.size 40 4 (.slice G41 fr.length g41) fr.length (fr.flatMap cFrame)) ∧ (wr.ownsRow w.heap.size 40 4 (.slice KP nk ck) nk ((keptF (tOf bs) (os ++ I39) 0 0 N).flatMap cFrame)) ∧ (wr.ownsRow w.heap.size 4 1 (.slice TH N ct) N ((tsL (tOf bs) N).flatMap cT)) ∧ (wr.ownsRow w.heap.size 32 3 (.slice WA nw cw) nw ((wantL (tOf bs) 0 (os.take k)).flatMap cPacket)) ∧ ((WA : Option Addr).map (·.block) ≠ some q9) ∧ ((WA : Option Addr).map (·.block) ≠ some q43) ∧ (∀ b, (O : Option Addr).map (·.block) = some b → (WA : Option Addr).map (·.block) ≠ some b) ∧ (∀ b, (WA : Option Addr).map (·.block) = some b → (O : Option Addr).map (·.block) ≠ some b) ∧ (∀ b, (E : Option Addr).map (·.block) = some b → (WA : Option Addr).map (·.block) ≠ some b) ∧ (∀ b, (WA : Option Addr).map (·.block) = some b → (E : Option Addr).map (·.block) ≠ some b) ∧ (∀ b, (FI : Option Addr).map (·.block) = some b → (WA : Option Addr).map (·.block) ≠ some b) ∧ (∀ b, (WA : Option Addr).map (·.block) = some b → (FI : Option Addr).map (·.block) ≠ some b) ∧ (∀ b, (A39 : Option Addr).map (·.block) = some b → (WA : Option Addr).map (·.block) ≠ some b) ∧ (∀ b, (WA : Option Addr).map (·.block) = some b → (A39 : Option Addr).map (·.block) ≠ some b) ∧ (∀ b, (A41 : Option Addr).map (·.block) = some b → (WA : Option Addr).map (·.block) ≠ some b) ∧ (∀ b, (WA : Option Addr).map (·.block) = some b → (A41 : Option Addr).map (·.block) ≠ some b) ∧ (∀ b, (G41 : Option Addr).map (·.block) = some b → (WA : Option Addr).map (·.block) ≠ some b) ∧ (∀ b, (WA : Option Addr).map (·.block) = some b → (G41 : Option Addr).map (·.block) ≠ some b) ∧ (∀ b, (KP : Option Addr).map (·.block) = some b → (WA : Option Addr).map (·.block) ≠ some b) ∧ (∀ b, (WA : Option Addr).map (·.block) = some b → (KP : Option Addr).map (·.block) ≠ some b) ∧ (∀ b, (TH : Option Addr).map (·.block) = some b → (WA : Option Addr).map (·.block) ≠ some b) ∧ (∀ b, (WA : Option Addr).map (·.block) = some b → (TH : Option Addr).map (·.block) ≠ some b) ∧ (∀ b, (WA : Option Addr).map (·.block) = some b → w.heap.size ≤ b) ∧ (k ≤ os.length) ∧ ((wantL (tOf bs) 0 (os.take k)).length = nw) ∧ (nw ≤ k)) (fun a _ => os.length - (intOf (a.eval (.tmp 14))).toNat) (⟨0, 0, (some ⟨q77, 0, none⟩), 0, hs, s2, s3, s5, s8, s9, s10, s13, s14, hB, h_q9, h_q43, o_os, o_e, o_fi, o_x39, o_x41, o_f41, o_kp, o_th, o_wa, d_wa_q9, d_wa_q43, m_os_wa, m_wa_os, m_e_wa, m_wa_e, m_fi_wa, m_wa_fi, m_x39_wa, m_wa_x39, m_x41_wa, m_wa_x41, m_f41_wa, m_wa_f41, m_kp_wa, m_wa_kp, m_th_wa, m_wa_th, g_wa, Nat.zero_le _, rfl, Nat.zero_le _⟩) ?_
        intro a38 w82 hI
        obtain ⟨k, nw, WA, cw, hI⟩ := hI
        have hs := hI.1
        replace hI := hI.2
        have s2 := hI.1
        replace hI := hI.2
        have s3 := hI.1
        replace hI := hI.2
        have s5 := hI.1
        replace hI := hI.2
        have s8 := hI.1
        replace hI := hI.2
        have s9 := hI.1
        replace hI := hI.2
        have s10 := hI.1
        replace hI := hI.2
        have s13 := hI.1
        replace hI := hI.2
        have s14 := hI.1
        replace hI := hI.2
        have hB := hI.1
        replace hI := hI.2
        have h_q9 := hI.1
        replace hI := hI.2
        have h_q43 := hI.1
        replace hI := hI.2
        have o_os := hI.1
        replace hI := hI.2
        have o_e := hI.1
        replace hI := hI.2
        have o_fi := hI.1
        replace hI := hI.2
        have o_x39 := hI.1
        replace hI := hI.2
        have o_x41 := hI.1
        replace hI := hI.2
        have o_f41 := hI.1
        replace hI := hI.2
        have o_kp := hI.1
        replace hI := hI.2
        have o_th := hI.1
        replace hI := hI.2
        have o_wa := hI.1
        replace hI := hI.2
        have d_wa_q9 := hI.1
        replace hI := hI.2
        have d_wa_q43 := hI.1
        replace hI := hI.2
        have m_os_wa := hI.1
        replace hI := hI.2
        have m_wa_os := hI.1
        replace hI := hI.2
        have m_e_wa := hI.1
        replace hI := hI.2
        have m_wa_e := hI.1
        replace hI := hI.2
        have m_fi_wa := hI.1
        replace hI := hI.2
        have m_wa_fi := hI.1
        replace hI := hI.2
        have m_x39_wa := hI.1
        replace hI := hI.2
        have m_wa_x39 := hI.1
        replace hI := hI.2
        have m_x41_wa := hI.1
        replace hI := hI.2
        have m_wa_x41 := hI.1
        replace hI := hI.2
        have m_f41_wa := hI.1
        replace hI := hI.2
        have m_wa_f41 := hI.1
        replace hI := hI.2
        have m_kp_wa := hI.1
        replace hI := hI.2
        have m_wa_kp := hI.1
        replace hI := hI.2
        have m_th_wa := hI.1
        replace hI := hI.2
        have m_wa_th := hI.1
        replace hI := hI.2
        have g_wa := hI.1
        replace hI := hI.2
        have hk := hI.1
        replace hI := hI.2
        have hnw := hI.1
        replace hI := hI.2
        have hnw2 := hI
        clear hI
        have mu83 := s14
        refine wp_seq_k fun K84 hK84 => ?_
        refine wp_seq_k fun K85 hK85 => ?_
        refine wp_region_lit ?_
        refine q_val rfl rfl ?_
        refine g_move rfl s14 ?_
        intro a39 p39
        have s79 : a39.eval (.tmp 79) = .int .i64 ((k : Nat) : Int) := p39.at hs (by decide)
        replace hs := p39.st hs
        refine q_val rfl rfl ?_
        refine g_move rfl ((p39.ne rfl).trans s3) ?_
        intro a40 p40
        have s80 : a40.eval (.tmp 80) = .slice O os.length co := p40.at hs (by decide)
        replace hs := p40.st hs
        refine q_val rfl rfl ?_
        refine g_len (e := _) rfl Try.underlying24 s80 ?_
        intro a41 p41
        have s81 : a41.eval (.tmp 81) = .int .i64 ((os.length : Nat) : Int) := p41.at hs (by decide)
        replace hs := p41.st hs
        refine q_val rfl rfl ?_
        refine g_lss rfl (((p41.ne rfl).trans (p40.ne rfl)).trans s79) s81 ?_
        intro a42 p42
        have s82 : a42.eval (.tmp 82) = .bool (decide (((k : Nat) : Int) < ((os.length : Nat) : Int))) := p42.at hs (by decide)
        replace hs := p42.st hs
        refine wpList_nil ?_
        replace s2 : a42.eval (.tmp 2) = .bool false := ((p42.ne rfl).trans ((p41.ne rfl).trans ((p40.ne rfl).trans (p39.ne rfl)))).trans s2
        replace s3 : a42.eval (.tmp 3) = .slice O os.length co := ((p42.ne rfl).trans ((p41.ne rfl).trans ((p40.ne rfl).trans (p39.ne rfl)))).trans s3
        replace s5 : a42.eval (.tmp 5) = .slice FI os.length cf := ((p42.ne rfl).trans ((p41.ne rfl).trans ((p40.ne rfl).trans (p39.ne rfl)))).trans s5
        replace s8 : a42.eval (.tmp 8) = .slice G41 fr.length g41 := ((p42.ne rfl).trans ((p41.ne rfl).trans ((p40.ne rfl).trans (p39.ne rfl)))).trans s8
        replace s9 : a42.eval (.tmp 9) = .slice KP nk ck := ((p42.ne rfl).trans ((p41.ne rfl).trans ((p40.ne rfl).trans (p39.ne rfl)))).trans s9
        replace s10 : a42.eval (.tmp 10) = .slice TH N ct := ((p42.ne rfl).trans ((p41.ne rfl).trans ((p40.ne rfl).trans (p39.ne rfl)))).trans s10
        replace s13 : a42.eval (.tmp 13) = .slice WA nw cw := ((p42.ne rfl).trans ((p41.ne rfl).trans ((p40.ne rfl).trans (p39.ne rfl)))).trans s13
        replace s14 : a42.eval (.tmp 14) = .int .i64 ((k : Nat) : Int) := ((p42.ne rfl).trans ((p41.ne rfl).trans ((p40.ne rfl).trans (p39.ne rfl)))).trans s14
        refine hK85 _ _ ?_
        clear hK85
        by_cases hc86 : ((k : Nat) : Int) < ((os.length : Nat) : Int)
        · replace s82 := s82.trans (congrArg Value.bool (decide_eq_true hc86))
          replace s82 : a42.eval (.tmp 82) = .bool true := s82
          refine c_true s82 ?_
          refine wp_skip ?_
          refine hK84 _ _ ?_
          clear hK84
          refine wp_seq_k fun K87 hK87 => ?_
          refine wp_block ?_
          refine wp_seq_k fun K88 hK88 => ?_
          have hlt : k < os.length := by omega
          have hfk : (fiL os os.length)[k]'(by rw [fiL_len]; exact hlt) = ((sAt os k : Nat) : Int) := fiL_at _ _ _ _
          have hsk := sAt_le os hlt
          have h_lfi : k < (fiL os os.length).length := by rw [fiL_len]; exact hlt
          obtain ⟨b89, o90, hA91, hl_hc92, hc92⟩ := Rd.get cI_len (Rd.of_own o_fi) (Eq.symm (fiL_len os os.length)) (i := k) h_lfi
          obtain ⟨b93, o94, hA95, hl_hc96, hc96⟩ := Rd.get cPacket_len (Rd.of_own o_os) rfl (i := k) (by omega)
          refine wp_drawn (n := 154) [] [] [] (fun k_ v_ _wx => match k_ with | 0 => v_ = .slice FI os.length cf | 1 => v_ = .int .i64 ((k : Nat) : Int) | 2 => v_ = .pointer (some ⟨b89, o90 + k * 1, none⟩) | 3 => v_ = .int .i64 ((fiL os os.length)[k]) | 4 => v_ = .int .i64 (((fiL os os.length)[k]) + 3) | 5 => v_ = .slice O os.length co | 6 => v_ = .int .i64 ((k : Nat) : Int) | 7 => v_ = .pointer (some ⟨b93, o94 + k * 3, none⟩) | 8 => v_ = .pointer (some ⟨b93, o94 + k * 3 + 2, none⟩) | 9 => v_ = .string ⟨(os[k].f2).toArray⟩ | 10 => v_ = .int .i64 (((os[k].f2).length : Nat) : Int) | 11 => v_ = .int .i64 ((((fiL os os.length)[k]) + 3) + (((os[k].f2).length : Nat) : Int)) | 12 => v_ = .int .i64 ((((fiL os os.length)[k]) + 3) + (((os[k].f2).length : Nat) : Int)) | _ => True) (by kernel_rfl) (by kernel_rfl) (by kernel_rfl) (by kernel_rfl) hs.size ?_ ?_ ?_
          · intro i v wa wb hb hr
            rcases i with _ | _ | _ | _ | _ | _ | _ | _ | _ | _ | _ | _ | _ | i
            · exact hr
            · exact hr
            · exact hr
            · exact hr
            · exact hr
            · exact hr
            · exact hr
            · exact hr
            · exact hr
            · exact hr
            · exact hr
            · exact hr
            · exact hr
            · trivial
          · refine d_step rfl rfl ?_ (d_step rfl rfl ?_ (d_step rfl rfl ?_ (d_step rfl rfl ?_ (d_step rfl rfl ?_ (d_step rfl rfl ?_ (d_step rfl rfl ?_ (d_step rfl rfl ?_ (d_step rfl rfl ?_ (d_step rfl rfl ?_ (d_step rfl rfl ?_ (d_step rfl rfl ?_ (d_step rfl rfl ?_ (d_nil)))))))))))))
            · intro xv_ wx ρ hρ hwx hd K hK
              have e5 : ρ (.tmp 5) = .slice FI os.length cf := (hρ.inn 5 rfl).trans s5
              refine g_move rfl e5 ?_
              exact hK _ _ (Below.refl _ _) rfl
            · intro xv_ wx ρ hρ hwx hd K hK
              have e14 : ρ (.tmp 14) = .int .i64 ((k : Nat) : Int) := (hρ.inn 14 rfl).trans s14
              refine g_move rfl e14 ?_
              exact hK _ _ (Below.refl _ _) rfl
            · intro xv_ wx ρ hρ hwx hd K hK
              obtain r0 : xv_ 0 = .slice FI os.length cf := hd 0 rfl
              have e85 : ρ (.tmp 85) = .slice FI os.length cf := (hρ.out 0 85 rfl (by rw [hs.size]; decide) rfl).trans r0
              obtain r1 : xv_ 1 = .int .i64 ((k : Nat) : Int) := hd 1 rfl
              have e86 : ρ (.tmp 86) = .int .i64 ((k : Nat) : Int) := (hρ.out 1 86 rfl (by rw [hs.size]; decide) rfl).trans r1
              refine g_index (r := o90 + k * 1) (k := k) rfl (e85.trans (slice_at hA91)) e86 Try.underlying26 (fun w => Try.sizeOf3 w) (by omega) rfl ?_
              exact hK _ _ (Below.refl _ _) rfl
            · intro xv_ wx ρ hρ hwx hd K hK
              obtain r2 : xv_ 2 = .pointer (some ⟨b89, o90 + k * 1, none⟩) := hd 2 rfl
              have e87 : ρ (.tmp 87) = .pointer (some ⟨b89, o90 + k * 1, none⟩) := (hρ.out 2 87 rfl (by rw [hs.size]; decide) rfl).trans r2
              have hc92 := elem_below hc92 hwx hl_hc92
              refine g_load rfl e87 Try.isAgg3 (by first | exact hc92 0 _ (by decide) rfl | (rw [Nat.add_assoc]; exact hc92 0 _ (by decide) rfl)) ?_
              exact hK _ _ (Below.refl _ _) rfl
            · intro xv_ wx ρ hρ hwx hd K hK
              obtain r3 : xv_ 3 = .int .i64 ((fiL os os.length)[k]) := hd 3 rfl
              have e88 : ρ (.tmp 88) = .int .i64 ((fiL os os.length)[k]) := (hρ.out 3 88 rfl (by rw [hs.size]; decide) rfl).trans r3
              refine g_add (r := ((fiL os os.length)[k]) + 3) rfl e88 ((hρ.cst _)) (by omega) (by omega) ?_
              exact hK _ _ (Below.refl _ _) rfl
            · intro xv_ wx ρ hρ hwx hd K hK
              have e3 : ρ (.tmp 3) = .slice O os.length co := (hρ.inn 3 rfl).trans s3
              refine g_move rfl e3 ?_
              exact hK _ _ (Below.refl _ _) rfl
            · intro xv_ wx ρ hρ hwx hd K hK
              have e14 : ρ (.tmp 14) = .int .i64 ((k : Nat) : Int) := (hρ.inn 14 rfl).trans s14
              refine g_move rfl e14 ?_
              exact hK _ _ (Below.refl _ _) rfl
            · intro xv_ wx ρ hρ hwx hd K hK
              obtain r5 : xv_ 5 = .slice O os.length co := hd 5 rfl
              have e90 : ρ (.tmp 90) = .slice O os.length co := (hρ.out 5 90 rfl (by rw [hs.size]; decide) rfl).trans r5
              obtain r6 : xv_ 6 = .int .i64 ((k : Nat) : Int) := hd 6 rfl
              have e91 : ρ (.tmp 91) = .int .i64 ((k : Nat) : Int) := (hρ.out 6 91 rfl (by rw [hs.size]; decide) rfl).trans r6
              refine g_index (r := o94 + k * 3) (k := k) rfl (e90.trans (slice_at hA95)) e91 Try.underlying24 (fun w => Try.sizeOf32 w) (by omega) rfl ?_
              exact hK _ _ (Below.refl _ _) rfl
            · intro xv_ wx ρ hρ hwx hd K hK
              obtain r7 : xv_ 7 = .pointer (some ⟨b93, o94 + k * 3, none⟩) := hd 7 rfl
              have e92 : ρ (.tmp 92) = .pointer (some ⟨b93, o94 + k * 3, none⟩) := (hρ.out 7 92 rfl (by rw [hs.size]; decide) rfl).trans r7
              refine g_field (r := o94 + k * 3 + 2) rfl e92 Try.underlying32 rfl (fun w => Try.sizeOf9 w) rfl rfl ?_
              exact hK _ _ (Below.refl _ _) rfl
            · intro xv_ wx ρ hρ hwx hd K hK
              obtain r8 : xv_ 8 = .pointer (some ⟨b93, o94 + k * 3 + 2, none⟩) := hd 8 rfl
              have e93 : ρ (.tmp 93) = .pointer (some ⟨b93, o94 + k * 3 + 2, none⟩) := (hρ.out 8 93 rfl (by rw [hs.size]; decide) rfl).trans r8
              have hc96 := elem_below hc96 hwx hl_hc96
              refine g_load rfl e93 Try.isAgg9 (by first | exact hc96 2 _ (by decide) rfl | (rw [Nat.add_assoc]; exact hc96 2 _ (by decide) rfl)) ?_
              exact hK _ _ (Below.refl _ _) rfl
            · intro xv_ wx ρ hρ hwx hd K hK
              obtain r9 : xv_ 9 = .string ⟨(os[k].f2).toArray⟩ := hd 9 rfl
              have e94 : ρ (.tmp 94) = .string ⟨(os[k].f2).toArray⟩ := (hρ.out 9 94 rfl (by rw [hs.size]; decide) rfl).trans r9
              refine g_lenS rfl Try.underlying9 e94 ?_
              exact hK _ _ (Below.refl _ _) rfl
            · intro xv_ wx ρ hρ hwx hd K hK
              obtain r4 : xv_ 4 = .int .i64 (((fiL os os.length)[k]) + 3) := hd 4 rfl
              have e89 : ρ (.tmp 89) = .int .i64 (((fiL os os.length)[k]) + 3) := (hρ.out 4 89 rfl (by rw [hs.size]; decide) rfl).trans r4
              obtain r10 : xv_ 10 = .int .i64 (((os[k].f2).length : Nat) : Int) := hd 10 rfl
              have e95 : ρ (.tmp 95) = .int .i64 (((os[k].f2).length : Nat) : Int) := (hρ.out 10 95 rfl (by rw [hs.size]; decide) rfl).trans r10
              refine g_add (r := (((fiL os os.length)[k]) + 3) + (((os[k].f2).length : Nat) : Int)) rfl e89 e95 (by omega) (by omega) ?_
              exact hK _ _ (Below.refl _ _) rfl
            · intro xv_ wx ρ hρ hwx hd K hK
              obtain r11 : xv_ 11 = .int .i64 ((((fiL os os.length)[k]) + 3) + (((os[k].f2).length : Nat) : Int)) := hd 11 rfl
              have e96 : ρ (.tmp 96) = .int .i64 ((((fiL os os.length)[k]) + 3) + (((os[k].f2).length : Nat) : Int)) := (hρ.out 11 96 rfl (by rw [hs.size]; decide) rfl).trans r11
              refine g_assign rfl e96 ?_
              exact hK _ _ (Below.refl _ _) rfl
          · intro x0_ w97 hb_w97 hr0
            obtain r0 : x0_ 0 = .slice FI os.length cf := hr0 0 (by decide) rfl rfl
            obtain r1 : x0_ 1 = .int .i64 ((k : Nat) : Int) := hr0 1 (by decide) rfl rfl
            obtain r2 : x0_ 2 = .pointer (some ⟨b89, o90 + k * 1, none⟩) := hr0 2 (by decide) rfl rfl
            obtain r3 : x0_ 3 = .int .i64 ((fiL os os.length)[k]) := hr0 3 (by decide) rfl rfl
            obtain r4 : x0_ 4 = .int .i64 (((fiL os os.length)[k]) + 3) := hr0 4 (by decide) rfl rfl
            obtain r5 : x0_ 5 = .slice O os.length co := hr0 5 (by decide) rfl rfl
            obtain r6 : x0_ 6 = .int .i64 ((k : Nat) : Int) := hr0 6 (by decide) rfl rfl
            obtain r7 : x0_ 7 = .pointer (some ⟨b93, o94 + k * 3, none⟩) := hr0 7 (by decide) rfl rfl
            obtain r8 : x0_ 8 = .pointer (some ⟨b93, o94 + k * 3 + 2, none⟩) := hr0 8 (by decide) rfl rfl
            obtain r9 : x0_ 9 = .string ⟨(os[k].f2).toArray⟩ := hr0 9 (by decide) rfl rfl
            obtain r10 : x0_ 10 = .int .i64 (((os[k].f2).length : Nat) : Int) := hr0 10 (by decide) rfl rfl
            obtain r11 : x0_ 11 = .int .i64 ((((fiL os os.length)[k]) + 3) + (((os[k].f2).length : Nat) : Int)) := hr0 11 (by decide) rfl rfl
            obtain r12 : x0_ 12 = .int .i64 ((((fiL os os.length)[k]) + 3) + (((os[k].f2).length : Nat) : Int)) := hr0 12 (by decide) rfl rfl
            clear hr0
            replace h_q9 := keep_below h_q9 hb_w97
            replace h_q43 := keep_below h_q43 hb_w97
            replace o_os := own_below o_os hb_w97
            replace o_e := own_below o_e hb_w97
            replace o_fi := own_below o_fi hb_w97
            replace o_x39 := own_below o_x39 hb_w97
            replace o_x41 := own_below o_x41 hb_w97
            replace o_f41 := own_below o_f41 hb_w97
            replace o_kp := own_below o_kp hb_w97
            replace o_th := own_below o_th hb_w97
            replace o_wa := own_below o_wa hb_w97
            replace hB := hB.trans (hb_w97.mono hB.size)
            clear hb_w97
            intro xv_ a43 hρ hsz hdf qx_ ql_ qk_ qlk_
            replace s2 : a43.eval (.tmp 2) = .bool false := (hρ.inn 2 rfl).trans s2
            replace s3 : a43.eval (.tmp 3) = .slice O os.length co := (hρ.inn 3 rfl).trans s3
            replace s5 : a43.eval (.tmp 5) = .slice FI os.length cf := (hρ.inn 5 rfl).trans s5
            replace s8 : a43.eval (.tmp 8) = .slice G41 fr.length g41 := (hρ.inn 8 rfl).trans s8
            replace s9 : a43.eval (.tmp 9) = .slice KP nk ck := (hρ.inn 9 rfl).trans s9
            replace s10 : a43.eval (.tmp 10) = .slice TH N ct := (hρ.inn 10 rfl).trans s10
            replace s13 : a43.eval (.tmp 13) = .slice WA nw cw := (hρ.inn 13 rfl).trans s13
            replace s14 : a43.eval (.tmp 14) = .int .i64 ((k : Nat) : Int) := (hρ.inn 14 rfl).trans s14
            have s15 : a43.eval (.tmp 15) = .int .i64 ((((fiL os os.length)[k]) + 3) + (((os[k].f2).length : Nat) : Int)) := (hρ.out 12 15 rfl (by rw [hs.size]; decide)).trans ((qx_ 12 (by decide) rfl rfl).trans r12)
            replace s82 : a43.eval (.tmp 82) = .bool true := (hρ.inn 82 rfl).trans s82
            replace hs : St 154 a43 := ⟨hsz.trans hs.size, hdf.trans hs.nodef⟩
            clear hρ hsz hdf qx_ ql_ qk_ qlk_
            refine hK88 _ _ ?_
            clear hK88
            refine wp_seq_k fun K98 hK98 => ?_
            obtain ⟨la, hla⟩ : ∃ la, la = sAt os k + 3 + (os[k].f2).length := ⟨_, rfl⟩
            replace s15 : a43.eval (.tmp 15) = .int .i64 ((la : Nat) : Int) := s15.trans (by congr 1; omega)
            refine wp_region_lit ?_
            refine q_val rfl rfl ?_
            refine g_assign rfl rfl ?_
            intro a44 p44
            have s16 : a44.eval (.tmp 16) = .bool true := p44.at hs (by decide)
            replace hs := p44.st hs
            refine wpList_nil ?_
            replace s2 : a44.eval (.tmp 2) = .bool false := (p44.ne rfl).trans s2
            replace s3 : a44.eval (.tmp 3) = .slice O os.length co := (p44.ne rfl).trans s3
            replace s5 : a44.eval (.tmp 5) = .slice FI os.length cf := (p44.ne rfl).trans s5
            replace s8 : a44.eval (.tmp 8) = .slice G41 fr.length g41 := (p44.ne rfl).trans s8
            replace s9 : a44.eval (.tmp 9) = .slice KP nk ck := (p44.ne rfl).trans s9
            replace s10 : a44.eval (.tmp 10) = .slice TH N ct := (p44.ne rfl).trans s10
            replace s13 : a44.eval (.tmp 13) = .slice WA nw cw := (p44.ne rfl).trans s13
            replace s14 : a44.eval (.tmp 14) = .int .i64 ((k : Nat) : Int) := (p44.ne rfl).trans s14
            replace s15 : a44.eval (.tmp 15) = .int .i64 ((la : Nat) : Int) := (p44.ne rfl).trans s15
            replace s82 : a44.eval (.tmp 82) = .bool true := (p44.ne rfl).trans s82
            refine hK98 _ _ ?_
            clear hK98
            refine wp_seq_k fun K99 hK99 => ?_
            refine wp_seq_k fun K100 hK100 => ?_
            refine wp_region_lit ?_
            refine q_val rfl rfl ?_
            refine g_move rfl s5 ?_
            intro a45 p45
            have s97 : a45.eval (.tmp 97) = .slice FI os.length cf := p45.at hs (by decide)
            replace hs := p45.st hs
            refine q_val rfl rfl ?_
            refine g_move rfl ((p45.ne rfl).trans s14) ?_
            intro a46 p46
            have s98 : a46.eval (.tmp 98) = .int .i64 ((k : Nat) : Int) := p46.at hs (by decide)
            replace hs := p46.st hs
            obtain ⟨b101, o102, hA103, hl_hc104, hc104⟩ := Rd.get cI_len (Rd.of_own o_fi) (Eq.symm (fiL_len os os.length)) (i := k) h_lfi
            refine q_val rfl rfl ?_
            refine g_index (r := o102 + k * 1) (k := k) rfl (((p46.ne rfl).trans s97).trans (slice_at hA103)) s98 Try.underlying26 (fun w => Try.sizeOf3 w) (by omega) rfl ?_
            intro a47 p47
            have s99 : a47.eval (.tmp 99) = .pointer (some ⟨b101, o102 + k * 1, none⟩) := p47.at hs (by decide)
            replace hs := p47.st hs
            refine q_val rfl rfl ?_
            refine g_load rfl s99 Try.isAgg3 (by first | exact hc104 0 _ (by decide) rfl | (rw [Nat.add_assoc]; exact hc104 0 _ (by decide) rfl)) ?_
            intro a48 p48
            have s100 : a48.eval (.tmp 100) = .int .i64 ((fiL os os.length)[k]) := p48.at hs (by decide)
            replace hs := p48.st hs
            refine q_val rfl rfl ?_
            refine g_quo (N := (sAt os k)) (M := 24) rfl s100 rfl hfk rfl (by decide) (by omega) ?_
            intro a49 p49
            have s101 : a49.eval (.tmp 101) = .int .i64 (((sAt os k) / 24 : Nat) : Int) := p49.at hs (by decide)
            replace hs := p49.st hs
            refine q_val rfl rfl ?_
            refine g_assign rfl s101 ?_
            intro a50 p50
            have s17 : a50.eval (.tmp 17) = .int .i64 (((sAt os k) / 24 : Nat) : Int) := p50.at hs (by decide)
            replace hs := p50.st hs
            refine wpList_nil ?_
            replace s2 : a50.eval (.tmp 2) = .bool false := ((p50.ne rfl).trans ((p49.ne rfl).trans ((p48.ne rfl).trans ((p47.ne rfl).trans ((p46.ne rfl).trans (p45.ne rfl)))))).trans s2
            replace s3 : a50.eval (.tmp 3) = .slice O os.length co := ((p50.ne rfl).trans ((p49.ne rfl).trans ((p48.ne rfl).trans ((p47.ne rfl).trans ((p46.ne rfl).trans (p45.ne rfl)))))).trans s3
            replace s5 : a50.eval (.tmp 5) = .slice FI os.length cf := ((p50.ne rfl).trans ((p49.ne rfl).trans ((p48.ne rfl).trans ((p47.ne rfl).trans ((p46.ne rfl).trans (p45.ne rfl)))))).trans s5
            replace s8 : a50.eval (.tmp 8) = .slice G41 fr.length g41 := ((p50.ne rfl).trans ((p49.ne rfl).trans ((p48.ne rfl).trans ((p47.ne rfl).trans ((p46.ne rfl).trans (p45.ne rfl)))))).trans s8
            replace s9 : a50.eval (.tmp 9) = .slice KP nk ck := ((p50.ne rfl).trans ((p49.ne rfl).trans ((p48.ne rfl).trans ((p47.ne rfl).trans ((p46.ne rfl).trans (p45.ne rfl)))))).trans s9
            replace s10 : a50.eval (.tmp 10) = .slice TH N ct := ((p50.ne rfl).trans ((p49.ne rfl).trans ((p48.ne rfl).trans ((p47.ne rfl).trans ((p46.ne rfl).trans (p45.ne rfl)))))).trans s10
            replace s13 : a50.eval (.tmp 13) = .slice WA nw cw := ((p50.ne rfl).trans ((p49.ne rfl).trans ((p48.ne rfl).trans ((p47.ne rfl).trans ((p46.ne rfl).trans (p45.ne rfl)))))).trans s13
            replace s14 : a50.eval (.tmp 14) = .int .i64 ((k : Nat) : Int) := ((p50.ne rfl).trans ((p49.ne rfl).trans ((p48.ne rfl).trans ((p47.ne rfl).trans ((p46.ne rfl).trans (p45.ne rfl)))))).trans s14
            replace s15 : a50.eval (.tmp 15) = .int .i64 ((la : Nat) : Int) := ((p50.ne rfl).trans ((p49.ne rfl).trans ((p48.ne rfl).trans ((p47.ne rfl).trans ((p46.ne rfl).trans (p45.ne rfl)))))).trans s15
            replace s82 : a50.eval (.tmp 82) = .bool true := ((p50.ne rfl).trans ((p49.ne rfl).trans ((p48.ne rfl).trans ((p47.ne rfl).trans ((p46.ne rfl).trans (p45.ne rfl)))))).trans s82
            replace s16 : a50.eval (.tmp 16) = .bool true := ((p50.ne rfl).trans ((p49.ne rfl).trans ((p48.ne rfl).trans ((p47.ne rfl).trans ((p46.ne rfl).trans (p45.ne rfl)))))).trans s16
            refine hK100 _ _ ?_
            clear hK100
            refine wp_block ?_
            refine wp_loop (fun a wr => ∃ (i : Nat), (St 154 a) ∧ (a.eval (.tmp 2) = .bool false) ∧ (a.eval (.tmp 3) = .slice O os.length co) ∧ (a.eval (.tmp 5) = .slice FI os.length cf) ∧ (a.eval (.tmp 8) = .slice G41 fr.length g41) ∧ (a.eval (.tmp 9) = .slice KP nk ck) ∧ (a.eval (.tmp 10) = .slice TH N ct) ∧ (a.eval (.tmp 13) = .slice WA nw cw) ∧ (a.eval (.tmp 14) = .int .i64 ((k : Nat) : Int)) ∧ (a.eval (.tmp 15) = .int .i64 ((la : Nat) : Int)) ∧ (a.eval (.tmp 16) = .bool (whT (tOf bs) (sAt os k / 24) i)) ∧ (a.eval (.tmp 17) = .int .i64 ((i : Nat) : Int)) ∧ (a.eval (.tmp 82) = .bool true) ∧ (Below w.heap.size w wr) ∧ (wr.heap[q9]? = some (.cells #[.int .i64 0, .int .i64 0, .string ⟨((flatP os).drop 0).toArray⟩, .slice E ((dsAt os 0).length) ce] 28 (0, 0))) ∧ (wr.heap[q43]? = some (.cells #[.int .i64 0, .int .i64 ((0 + ((0 + N : Nat) : Int)) % 256), .string ⟨((flatP (os ++ I39)).drop (24 * (0 + N))).toArray⟩, .slice A41 ((dsAt (os ++ I39) (24 * (0 + N))).length) c41] 28 (0, 0))) ∧ (wr.ownsRow w.heap.size 32 3 (.slice O os.length co) os.length (os.flatMap cPacket)) ∧ (wr.ownsRow w.heap.size 3 1 (.slice E ((dsAt os 0).length) ce) ((dsAt os 0).length) ((dsAt os 0).flatMap cI)) ∧ (wr.ownsRow w.heap.size 3 1 (.slice FI os.length cf) os.length ((fiL os os.length).flatMap cI)) ∧ (wr.ownsRow w.heap.size 3 1 (.slice A39 ((dsAt (os ++ I39) 0).length) c39) ((dsAt (os ++ I39) 0).length) ((dsAt (os ++ I39) 0).flatMap cI)) ∧ (wr.ownsRow w.heap.size 3 1 (.slice A41 ((dsAt (os ++ I39) (24 * (0 + N))).length) c41) ((dsAt (os ++ I39) (24 * (0 + N))).length) ((dsAt (os ++ I39) (24 * (0 + N))).flatMap cI)) ∧ (wr.ownsRow w.heap.size 40 4 (.slice G41 fr.length g41) fr.length (fr.flatMap cFrame)) ∧ (wr.ownsRow w.heap.size 40 4 (.slice KP nk ck) nk ((keptF (tOf bs) (os ++ I39) 0 0 N).flatMap cFrame)) ∧ (wr.ownsRow w.heap.size 4 1 (.slice TH N ct) N ((tsL (tOf bs) N).flatMap cT)) ∧ (wr.ownsRow w.heap.size 32 3 (.slice WA nw cw) nw ((wantL (tOf bs) 0 (os.take k)).flatMap cPacket)) ∧ (sAt os k / 24 ≤ i) ∧ (i ≤ la / 24 + 1)) (fun a _ => la / 24 + 1 - (intOf (a.eval (.tmp 17))).toNat) (⟨sAt os k / 24, hs, s2, s3, s5, s8, s9, s10, s13, s14, s15, (Eq.trans s16 (congrArg Value.bool (by unfold whT; rw [Nat.sub_self]; rfl))), s17, s82, hB, h_q9, h_q43, o_os, o_e, o_fi, o_x39, o_x41, o_f41, o_kp, o_th, o_wa, Nat.le_refl _, (by omega)⟩) ?_
            intro a51 w106 hI
            obtain ⟨i, hs, s2, s3, s5, s8, s9, s10, s13, s14, s15, s16, s17, s82, hB, h_q9, h_q43, o_os, o_e, o_fi, o_x39, o_x41, o_f41, o_kp, o_th, o_wa, hi0, hi9⟩ := hI
            have mu107 := s17
            refine wp_seq_k fun K108 hK108 => ?_
            refine wp_seq_k fun K109 hK109 => ?_
            refine wp_region_lit ?_
            refine q_val rfl rfl ?_
            refine g_move rfl s17 ?_
            intro a52 p52
            have s102 : a52.eval (.tmp 102) = .int .i64 ((i : Nat) : Int) := p52.at hs (by decide)
            replace hs := p52.st hs
            refine q_val rfl rfl ?_
            refine g_move rfl ((p52.ne rfl).trans s15) ?_
            intro a53 p53
            have s103 : a53.eval (.tmp 103) = .int .i64 ((la : Nat) : Int) := p53.at hs (by decide)
            replace hs := p53.st hs
            refine q_val rfl rfl ?_
            refine g_quo (N := la) (M := 24) rfl s103 rfl rfl rfl (by decide) (by omega) ?_
            intro a54 p54
            have s104 : a54.eval (.tmp 104) = .int .i64 ((la / 24 : Nat) : Int) := p54.at hs (by decide)
            replace hs := p54.st hs
            refine q_val rfl rfl ?_
            refine g_leq rfl (((p54.ne rfl).trans (p53.ne rfl)).trans s102) s104 ?_
            intro a55 p55
            have s105 : a55.eval (.tmp 105) = .bool (decide (((i : Nat) : Int) ≤ ((la / 24 : Nat) : Int))) := p55.at hs (by decide)
            replace hs := p55.st hs
            refine wpList_nil ?_
            replace s2 : a55.eval (.tmp 2) = .bool false := ((p55.ne rfl).trans ((p54.ne rfl).trans ((p53.ne rfl).trans (p52.ne rfl)))).trans s2
            replace s3 : a55.eval (.tmp 3) = .slice O os.length co := ((p55.ne rfl).trans ((p54.ne rfl).trans ((p53.ne rfl).trans (p52.ne rfl)))).trans s3
            replace s5 : a55.eval (.tmp 5) = .slice FI os.length cf := ((p55.ne rfl).trans ((p54.ne rfl).trans ((p53.ne rfl).trans (p52.ne rfl)))).trans s5
            replace s8 : a55.eval (.tmp 8) = .slice G41 fr.length g41 := ((p55.ne rfl).trans ((p54.ne rfl).trans ((p53.ne rfl).trans (p52.ne rfl)))).trans s8
            replace s9 : a55.eval (.tmp 9) = .slice KP nk ck := ((p55.ne rfl).trans ((p54.ne rfl).trans ((p53.ne rfl).trans (p52.ne rfl)))).trans s9
            replace s10 : a55.eval (.tmp 10) = .slice TH N ct := ((p55.ne rfl).trans ((p54.ne rfl).trans ((p53.ne rfl).trans (p52.ne rfl)))).trans s10
            replace s13 : a55.eval (.tmp 13) = .slice WA nw cw := ((p55.ne rfl).trans ((p54.ne rfl).trans ((p53.ne rfl).trans (p52.ne rfl)))).trans s13
            replace s14 : a55.eval (.tmp 14) = .int .i64 ((k : Nat) : Int) := ((p55.ne rfl).trans ((p54.ne rfl).trans ((p53.ne rfl).trans (p52.ne rfl)))).trans s14
            replace s15 : a55.eval (.tmp 15) = .int .i64 ((la : Nat) : Int) := ((p55.ne rfl).trans ((p54.ne rfl).trans ((p53.ne rfl).trans (p52.ne rfl)))).trans s15
            replace s82 : a55.eval (.tmp 82) = .bool true := ((p55.ne rfl).trans ((p54.ne rfl).trans ((p53.ne rfl).trans (p52.ne rfl)))).trans s82
            replace s16 : a55.eval (.tmp 16) = .bool (whT (tOf bs) (sAt os k / 24) i) := ((p55.ne rfl).trans ((p54.ne rfl).trans ((p53.ne rfl).trans (p52.ne rfl)))).trans s16
            replace s17 : a55.eval (.tmp 17) = .int .i64 ((i : Nat) : Int) := ((p55.ne rfl).trans ((p54.ne rfl).trans ((p53.ne rfl).trans (p52.ne rfl)))).trans s17
            refine hK109 _ _ ?_
            clear hK109
            by_cases hc110 : ((i : Nat) : Int) ≤ ((la / 24 : Nat) : Int)
            · replace s105 := s105.trans (congrArg Value.bool (decide_eq_true hc110))
              replace s105 : a55.eval (.tmp 105) = .bool true := s105
              refine c_true s105 ?_
              refine wp_skip ?_
              refine hK108 _ _ ?_
              clear hK108
              refine wp_seq_k fun K111 hK111 => ?_
              refine wp_block ?_
              have h_lts : i < (tsL (tOf bs) N).length := by rw [tsL_len]; omega
              refine wp_region_lit ?_
              refine q_val rfl rfl ?_
              refine g_move rfl s16 ?_
              intro a56 p56
              have s108 : a56.eval (.tmp 108) = .bool (whT (tOf bs) (sAt os k / 24) i) := p56.at hs (by decide)
              replace hs := p56.st hs
              refine q_val rfl rfl ?_
              refine g_move rfl s108 ?_
              intro a57 p57
              have s109 : a57.eval (.tmp 109) = .bool (whT (tOf bs) (sAt os k / 24) i) := p57.at hs (by decide)
              replace hs := p57.st hs
              cases hwt : whT (tOf bs) (sAt os k / 24) i
              · replace s16 := s16.trans (congrArg Value.bool hwt)
                replace s16 : a55.eval (.tmp 16) = .bool false := s16
                replace s108 := s108.trans (congrArg Value.bool hwt)
                replace s108 : a56.eval (.tmp 108) = .bool false := s108
                replace s109 := s109.trans (congrArg Value.bool hwt)
                replace s109 : a57.eval (.tmp 109) = .bool false := s109
                refine q_skip rfl rfl s109 rfl ?_
                intro a58 p58
                have s110 : a58.eval (.tmp 110) = undef := p58.at hs (by decide)
                replace hs := p58.st hs
                refine q_skip rfl rfl ((p58.ne rfl).trans s109) rfl ?_
                intro a59 p59
                have s111 : a59.eval (.tmp 111) = undef := p59.at hs (by decide)
                replace hs := p59.st hs
                refine q_skip rfl rfl (((p59.ne rfl).trans (p58.ne rfl)).trans s109) rfl ?_
                intro a60 p60
                have s112 : a60.eval (.tmp 112) = undef := p60.at hs (by decide)
                replace hs := p60.st hs
                refine q_skip rfl rfl (((p60.ne rfl).trans ((p59.ne rfl).trans (p58.ne rfl))).trans s109) rfl ?_
                intro a61 p61
                have s113 : a61.eval (.tmp 113) = undef := p61.at hs (by decide)
                replace hs := p61.st hs
                refine q_val rfl rfl ?_
                refine g_pick_f rfl (((p61.ne rfl).trans ((p60.ne rfl).trans ((p59.ne rfl).trans (p58.ne rfl)))).trans s109) rfl ?_
                intro a62 p62
                have s114 : a62.eval (.tmp 114) = .bool false := p62.at hs (by decide)
                replace hs := p62.st hs
                refine q_val rfl rfl ?_
                refine g_move rfl s114 ?_
                intro a63 p63
                have s115 : a63.eval (.tmp 115) = .bool false := p63.at hs (by decide)
                replace hs := p63.st hs
                refine q_skip rfl rfl s115 rfl ?_
                intro a64 p64
                have s116 : a64.eval (.tmp 116) = undef := p64.at hs (by decide)
                replace hs := p64.st hs
                refine q_skip rfl rfl ((p64.ne rfl).trans s115) rfl ?_
                intro a65 p65
                have s117 : a65.eval (.tmp 117) = undef := p65.at hs (by decide)
                replace hs := p65.st hs
                refine q_skip rfl rfl (((p65.ne rfl).trans (p64.ne rfl)).trans s115) rfl ?_
                intro a66 p66
                have s118 : a66.eval (.tmp 118) = undef := p66.at hs (by decide)
                replace hs := p66.st hs
                refine q_skip rfl rfl (((p66.ne rfl).trans ((p65.ne rfl).trans (p64.ne rfl))).trans s115) rfl ?_
                intro a67 p67
                have s119 : a67.eval (.tmp 119) = undef := p67.at hs (by decide)
                replace hs := p67.st hs
                refine q_val rfl rfl ?_
                refine g_pick_f rfl (((p67.ne rfl).trans ((p66.ne rfl).trans ((p65.ne rfl).trans (p64.ne rfl)))).trans s115) rfl ?_
                intro a68 p68
                have s120 : a68.eval (.tmp 120) = .bool false := p68.at hs (by decide)
                replace hs := p68.st hs
                refine q_val rfl rfl ?_
                refine g_assign rfl s120 ?_
                intro a69 p69
                have s16 : a69.eval (.tmp 16) = .bool false := p69.at hs (by decide)
                replace hs := p69.st hs
                refine wpList_nil ?_
                replace s2 : a69.eval (.tmp 2) = .bool false := ((p69.ne rfl).trans ((p68.ne rfl).trans ((p67.ne rfl).trans ((p66.ne rfl).trans ((p65.ne rfl).trans ((p64.ne rfl).trans ((p63.ne rfl).trans ((p62.ne rfl).trans ((p61.ne rfl).trans ((p60.ne rfl).trans ((p59.ne rfl).trans ((p58.ne rfl).trans ((p57.ne rfl).trans (p56.ne rfl)))))))))))))).trans s2
                replace s3 : a69.eval (.tmp 3) = .slice O os.length co := ((p69.ne rfl).trans ((p68.ne rfl).trans ((p67.ne rfl).trans ((p66.ne rfl).trans ((p65.ne rfl).trans ((p64.ne rfl).trans ((p63.ne rfl).trans ((p62.ne rfl).trans ((p61.ne rfl).trans ((p60.ne rfl).trans ((p59.ne rfl).trans ((p58.ne rfl).trans ((p57.ne rfl).trans (p56.ne rfl)))))))))))))).trans s3
                replace s5 : a69.eval (.tmp 5) = .slice FI os.length cf := ((p69.ne rfl).trans ((p68.ne rfl).trans ((p67.ne rfl).trans ((p66.ne rfl).trans ((p65.ne rfl).trans ((p64.ne rfl).trans ((p63.ne rfl).trans ((p62.ne rfl).trans ((p61.ne rfl).trans ((p60.ne rfl).trans ((p59.ne rfl).trans ((p58.ne rfl).trans ((p57.ne rfl).trans (p56.ne rfl)))))))))))))).trans s5
                replace s8 : a69.eval (.tmp 8) = .slice G41 fr.length g41 := ((p69.ne rfl).trans ((p68.ne rfl).trans ((p67.ne rfl).trans ((p66.ne rfl).trans ((p65.ne rfl).trans ((p64.ne rfl).trans ((p63.ne rfl).trans ((p62.ne rfl).trans ((p61.ne rfl).trans ((p60.ne rfl).trans ((p59.ne rfl).trans ((p58.ne rfl).trans ((p57.ne rfl).trans (p56.ne rfl)))))))))))))).trans s8
                replace s9 : a69.eval (.tmp 9) = .slice KP nk ck := ((p69.ne rfl).trans ((p68.ne rfl).trans ((p67.ne rfl).trans ((p66.ne rfl).trans ((p65.ne rfl).trans ((p64.ne rfl).trans ((p63.ne rfl).trans ((p62.ne rfl).trans ((p61.ne rfl).trans ((p60.ne rfl).trans ((p59.ne rfl).trans ((p58.ne rfl).trans ((p57.ne rfl).trans (p56.ne rfl)))))))))))))).trans s9
                replace s10 : a69.eval (.tmp 10) = .slice TH N ct := ((p69.ne rfl).trans ((p68.ne rfl).trans ((p67.ne rfl).trans ((p66.ne rfl).trans ((p65.ne rfl).trans ((p64.ne rfl).trans ((p63.ne rfl).trans ((p62.ne rfl).trans ((p61.ne rfl).trans ((p60.ne rfl).trans ((p59.ne rfl).trans ((p58.ne rfl).trans ((p57.ne rfl).trans (p56.ne rfl)))))))))))))).trans s10
                replace s13 : a69.eval (.tmp 13) = .slice WA nw cw := ((p69.ne rfl).trans ((p68.ne rfl).trans ((p67.ne rfl).trans ((p66.ne rfl).trans ((p65.ne rfl).trans ((p64.ne rfl).trans ((p63.ne rfl).trans ((p62.ne rfl).trans ((p61.ne rfl).trans ((p60.ne rfl).trans ((p59.ne rfl).trans ((p58.ne rfl).trans ((p57.ne rfl).trans (p56.ne rfl)))))))))))))).trans s13
                replace s14 : a69.eval (.tmp 14) = .int .i64 ((k : Nat) : Int) := ((p69.ne rfl).trans ((p68.ne rfl).trans ((p67.ne rfl).trans ((p66.ne rfl).trans ((p65.ne rfl).trans ((p64.ne rfl).trans ((p63.ne rfl).trans ((p62.ne rfl).trans ((p61.ne rfl).trans ((p60.ne rfl).trans ((p59.ne rfl).trans ((p58.ne rfl).trans ((p57.ne rfl).trans (p56.ne rfl)))))))))))))).trans s14
                replace s15 : a69.eval (.tmp 15) = .int .i64 ((la : Nat) : Int) := ((p69.ne rfl).trans ((p68.ne rfl).trans ((p67.ne rfl).trans ((p66.ne rfl).trans ((p65.ne rfl).trans ((p64.ne rfl).trans ((p63.ne rfl).trans ((p62.ne rfl).trans ((p61.ne rfl).trans ((p60.ne rfl).trans ((p59.ne rfl).trans ((p58.ne rfl).trans ((p57.ne rfl).trans (p56.ne rfl)))))))))))))).trans s15
                replace s82 : a69.eval (.tmp 82) = .bool true := ((p69.ne rfl).trans ((p68.ne rfl).trans ((p67.ne rfl).trans ((p66.ne rfl).trans ((p65.ne rfl).trans ((p64.ne rfl).trans ((p63.ne rfl).trans ((p62.ne rfl).trans ((p61.ne rfl).trans ((p60.ne rfl).trans ((p59.ne rfl).trans ((p58.ne rfl).trans ((p57.ne rfl).trans (p56.ne rfl)))))))))))))).trans s82
                replace s17 : a69.eval (.tmp 17) = .int .i64 ((i : Nat) : Int) := ((p69.ne rfl).trans ((p68.ne rfl).trans ((p67.ne rfl).trans ((p66.ne rfl).trans ((p65.ne rfl).trans ((p64.ne rfl).trans ((p63.ne rfl).trans ((p62.ne rfl).trans ((p61.ne rfl).trans ((p60.ne rfl).trans ((p59.ne rfl).trans ((p58.ne rfl).trans ((p57.ne rfl).trans (p56.ne rfl)))))))))))))).trans s17
                replace s105 : a69.eval (.tmp 105) = .bool true := ((p69.ne rfl).trans ((p68.ne rfl).trans ((p67.ne rfl).trans ((p66.ne rfl).trans ((p65.ne rfl).trans ((p64.ne rfl).trans ((p63.ne rfl).trans ((p62.ne rfl).trans ((p61.ne rfl).trans ((p60.ne rfl).trans ((p59.ne rfl).trans ((p58.ne rfl).trans ((p57.ne rfl).trans (p56.ne rfl)))))))))))))).trans s105
                refine hK111 _ _ ?_
                clear hK111
                refine wp_region_lit ?_
                refine q_val rfl rfl ?_
                refine g_move rfl s17 ?_
                intro a70 p70
                have s106 : a70.eval (.tmp 106) = .int .i64 ((i : Nat) : Int) := p70.at hs (by decide)
                replace hs := p70.st hs
                refine q_val rfl rfl ?_
                refine g_add (r := ((i + 1 : Nat) : Int)) rfl s106 rfl (by omega) (by omega) ?_
                intro a71 p71
                have s107 : a71.eval (.tmp 107) = .int .i64 ((i + 1 : Nat) : Int) := p71.at hs (by decide)
                replace hs := p71.st hs
                refine q_val rfl rfl ?_
                refine g_assign rfl s107 ?_
                intro a72 p72
                have s17 : a72.eval (.tmp 17) = .int .i64 ((i + 1 : Nat) : Int) := p72.at hs (by decide)
                replace hs := p72.st hs
                refine wpList_nil ?_
                replace s2 : a72.eval (.tmp 2) = .bool false := ((p72.ne rfl).trans ((p71.ne rfl).trans (p70.ne rfl))).trans s2
                replace s3 : a72.eval (.tmp 3) = .slice O os.length co := ((p72.ne rfl).trans ((p71.ne rfl).trans (p70.ne rfl))).trans s3
                replace s5 : a72.eval (.tmp 5) = .slice FI os.length cf := ((p72.ne rfl).trans ((p71.ne rfl).trans (p70.ne rfl))).trans s5
                replace s8 : a72.eval (.tmp 8) = .slice G41 fr.length g41 := ((p72.ne rfl).trans ((p71.ne rfl).trans (p70.ne rfl))).trans s8
                replace s9 : a72.eval (.tmp 9) = .slice KP nk ck := ((p72.ne rfl).trans ((p71.ne rfl).trans (p70.ne rfl))).trans s9
                replace s10 : a72.eval (.tmp 10) = .slice TH N ct := ((p72.ne rfl).trans ((p71.ne rfl).trans (p70.ne rfl))).trans s10
                replace s13 : a72.eval (.tmp 13) = .slice WA nw cw := ((p72.ne rfl).trans ((p71.ne rfl).trans (p70.ne rfl))).trans s13
                replace s14 : a72.eval (.tmp 14) = .int .i64 ((k : Nat) : Int) := ((p72.ne rfl).trans ((p71.ne rfl).trans (p70.ne rfl))).trans s14
                replace s15 : a72.eval (.tmp 15) = .int .i64 ((la : Nat) : Int) := ((p72.ne rfl).trans ((p71.ne rfl).trans (p70.ne rfl))).trans s15
                replace s82 : a72.eval (.tmp 82) = .bool true := ((p72.ne rfl).trans ((p71.ne rfl).trans (p70.ne rfl))).trans s82
                replace s16 : a72.eval (.tmp 16) = .bool false := ((p72.ne rfl).trans ((p71.ne rfl).trans (p70.ne rfl))).trans s16
                replace s105 : a72.eval (.tmp 105) = .bool true := ((p72.ne rfl).trans ((p71.ne rfl).trans (p70.ne rfl))).trans s105
                refine show _ ∧ _ from ⟨⟨i + 1, hs, s2, s3, s5, s8, s9, s10, s13, s14, s15, (Eq.trans s16 (congrArg Value.bool (whT_no (tOf bs) hi0 hwt).symm)), s17, s82, hB, h_q9, h_q43, o_os, o_e, o_fi, o_x39, o_x41, o_f41, o_kp, o_th, o_wa, (by omega), (by omega)⟩, ?_⟩
                show la / 24 + 1 - (intOf (a72.eval (.tmp 17))).toNat < la / 24 + 1 - (intOf (a51.eval (.tmp 17))).toNat
                rw [s17, mu107]
                simp only [intOf]
                omega
              · replace s16 := s16.trans (congrArg Value.bool hwt)
                replace s16 : a55.eval (.tmp 16) = .bool true := s16
                replace s108 := s108.trans (congrArg Value.bool hwt)
                replace s108 : a56.eval (.tmp 108) = .bool true := s108
                replace s109 := s109.trans (congrArg Value.bool hwt)
                replace s109 : a57.eval (.tmp 109) = .bool true := s109
                refine q_take rfl rfl s109 rfl ?_
                refine g_move rfl (((p57.ne rfl).trans (p56.ne rfl)).trans s17) ?_
                intro a58 p58
                have s110 : a58.eval (.tmp 110) = .int .i64 ((i : Nat) : Int) := p58.at hs (by decide)
                replace hs := p58.st hs
                refine q_take rfl rfl ((p58.ne rfl).trans s109) rfl ?_
                refine g_move rfl (((p58.ne rfl).trans ((p57.ne rfl).trans (p56.ne rfl))).trans s10) ?_
                intro a59 p59
                have s111 : a59.eval (.tmp 111) = .slice TH N ct := p59.at hs (by decide)
                replace hs := p59.st hs
                refine q_take rfl rfl (((p59.ne rfl).trans (p58.ne rfl)).trans s109) rfl ?_
                refine g_len (e := _) rfl Try.underlying37 s111 ?_
                intro a60 p60
                have s112 : a60.eval (.tmp 112) = .int .i64 ((N : Nat) : Int) := p60.at hs (by decide)
                replace hs := p60.st hs
                refine q_take rfl rfl (((p60.ne rfl).trans ((p59.ne rfl).trans (p58.ne rfl))).trans s109) rfl ?_
                refine g_lss rfl (((p60.ne rfl).trans (p59.ne rfl)).trans s110) s112 ?_
                intro a61 p61
                have s113 : a61.eval (.tmp 113) = .bool true := (p61.at hs (by decide)).trans (congrArg Value.bool (decide_eq_true (by omega)))
                replace hs := p61.st hs
                refine q_val rfl rfl ?_
                refine g_pick_t rfl (((p61.ne rfl).trans ((p60.ne rfl).trans ((p59.ne rfl).trans (p58.ne rfl)))).trans s109) s113 ?_
                intro a62 p62
                have s114 : a62.eval (.tmp 114) = .bool true := p62.at hs (by decide)
                replace hs := p62.st hs
                refine q_val rfl rfl ?_
                refine g_move rfl s114 ?_
                intro a63 p63
                have s115 : a63.eval (.tmp 115) = .bool true := p63.at hs (by decide)
                replace hs := p63.st hs
                refine q_take rfl rfl s115 rfl ?_
                refine g_move rfl (((p63.ne rfl).trans ((p62.ne rfl).trans ((p61.ne rfl).trans ((p60.ne rfl).trans ((p59.ne rfl).trans ((p58.ne rfl).trans ((p57.ne rfl).trans (p56.ne rfl)))))))).trans s10) ?_
                intro a64 p64
                have s116 : a64.eval (.tmp 116) = .slice TH N ct := p64.at hs (by decide)
                replace hs := p64.st hs
                refine q_take rfl rfl ((p64.ne rfl).trans s115) rfl ?_
                refine g_move rfl (((p64.ne rfl).trans ((p63.ne rfl).trans ((p62.ne rfl).trans ((p61.ne rfl).trans ((p60.ne rfl).trans ((p59.ne rfl).trans ((p58.ne rfl).trans ((p57.ne rfl).trans (p56.ne rfl))))))))).trans s17) ?_
                intro a65 p65
                have s117 : a65.eval (.tmp 117) = .int .i64 ((i : Nat) : Int) := p65.at hs (by decide)
                replace hs := p65.st hs
                obtain ⟨b112, o113, hA114, hl_hc115, hc115⟩ := Rd.get cT_len (Rd.of_own o_th) (Eq.symm (tsL_len _ N)) (i := i) h_lts
                refine q_take rfl rfl (((p65.ne rfl).trans (p64.ne rfl)).trans s115) rfl ?_
                refine g_index (r := o113 + i * 1) (k := i) rfl (((p65.ne rfl).trans s116).trans (slice_at hA114)) s117 Try.underlying37 (fun w => Try.sizeOf4 w) (by omega) rfl ?_
                intro a66 p66
                have s118 : a66.eval (.tmp 118) = .pointer (some ⟨b112, o113 + i * 1, none⟩) := p66.at hs (by decide)
                replace hs := p66.st hs
                refine q_take rfl rfl (((p66.ne rfl).trans ((p65.ne rfl).trans (p64.ne rfl))).trans s115) rfl ?_
                refine g_load rfl s118 Try.isAgg4 (by first | exact hc115 0 _ (by decide) rfl | (rw [Nat.add_assoc]; exact hc115 0 _ (by decide) rfl)) ?_
                intro a67 p67
                have s119 : a67.eval (.tmp 119) = .bool ((tsL (tOf bs) N)[i]) := p67.at hs (by decide)
                replace hs := p67.st hs
                refine q_val rfl rfl ?_
                refine g_pick_t rfl (((p67.ne rfl).trans ((p66.ne rfl).trans ((p65.ne rfl).trans (p64.ne rfl)))).trans s115) s119 ?_
                intro a68 p68
                have s120 : a68.eval (.tmp 120) = .bool ((tsL (tOf bs) N)[i]) := p68.at hs (by decide)
                replace hs := p68.st hs
                refine q_val rfl rfl ?_
                refine g_assign rfl s120 ?_
                intro a69 p69
                have s16 : a69.eval (.tmp 16) = .bool ((tsL (tOf bs) N)[i]) := p69.at hs (by decide)
                replace hs := p69.st hs
                refine wpList_nil ?_
                replace s2 : a69.eval (.tmp 2) = .bool false := ((p69.ne rfl).trans ((p68.ne rfl).trans ((p67.ne rfl).trans ((p66.ne rfl).trans ((p65.ne rfl).trans ((p64.ne rfl).trans ((p63.ne rfl).trans ((p62.ne rfl).trans ((p61.ne rfl).trans ((p60.ne rfl).trans ((p59.ne rfl).trans ((p58.ne rfl).trans ((p57.ne rfl).trans (p56.ne rfl)))))))))))))).trans s2
                replace s3 : a69.eval (.tmp 3) = .slice O os.length co := ((p69.ne rfl).trans ((p68.ne rfl).trans ((p67.ne rfl).trans ((p66.ne rfl).trans ((p65.ne rfl).trans ((p64.ne rfl).trans ((p63.ne rfl).trans ((p62.ne rfl).trans ((p61.ne rfl).trans ((p60.ne rfl).trans ((p59.ne rfl).trans ((p58.ne rfl).trans ((p57.ne rfl).trans (p56.ne rfl)))))))))))))).trans s3
                replace s5 : a69.eval (.tmp 5) = .slice FI os.length cf := ((p69.ne rfl).trans ((p68.ne rfl).trans ((p67.ne rfl).trans ((p66.ne rfl).trans ((p65.ne rfl).trans ((p64.ne rfl).trans ((p63.ne rfl).trans ((p62.ne rfl).trans ((p61.ne rfl).trans ((p60.ne rfl).trans ((p59.ne rfl).trans ((p58.ne rfl).trans ((p57.ne rfl).trans (p56.ne rfl)))))))))))))).trans s5
                replace s8 : a69.eval (.tmp 8) = .slice G41 fr.length g41 := ((p69.ne rfl).trans ((p68.ne rfl).trans ((p67.ne rfl).trans ((p66.ne rfl).trans ((p65.ne rfl).trans ((p64.ne rfl).trans ((p63.ne rfl).trans ((p62.ne rfl).trans ((p61.ne rfl).trans ((p60.ne rfl).trans ((p59.ne rfl).trans ((p58.ne rfl).trans ((p57.ne rfl).trans (p56.ne rfl)))))))))))))).trans s8
                replace s9 : a69.eval (.tmp 9) = .slice KP nk ck := ((p69.ne rfl).trans ((p68.ne rfl).trans ((p67.ne rfl).trans ((p66.ne rfl).trans ((p65.ne rfl).trans ((p64.ne rfl).trans ((p63.ne rfl).trans ((p62.ne rfl).trans ((p61.ne rfl).trans ((p60.ne rfl).trans ((p59.ne rfl).trans ((p58.ne rfl).trans ((p57.ne rfl).trans (p56.ne rfl)))))))))))))).trans s9
                replace s10 : a69.eval (.tmp 10) = .slice TH N ct := ((p69.ne rfl).trans ((p68.ne rfl).trans ((p67.ne rfl).trans ((p66.ne rfl).trans ((p65.ne rfl).trans ((p64.ne rfl).trans ((p63.ne rfl).trans ((p62.ne rfl).trans ((p61.ne rfl).trans ((p60.ne rfl).trans ((p59.ne rfl).trans ((p58.ne rfl).trans ((p57.ne rfl).trans (p56.ne rfl)))))))))))))).trans s10
                replace s13 : a69.eval (.tmp 13) = .slice WA nw cw := ((p69.ne rfl).trans ((p68.ne rfl).trans ((p67.ne rfl).trans ((p66.ne rfl).trans ((p65.ne rfl).trans ((p64.ne rfl).trans ((p63.ne rfl).trans ((p62.ne rfl).trans ((p61.ne rfl).trans ((p60.ne rfl).trans ((p59.ne rfl).trans ((p58.ne rfl).trans ((p57.ne rfl).trans (p56.ne rfl)))))))))))))).trans s13
                replace s14 : a69.eval (.tmp 14) = .int .i64 ((k : Nat) : Int) := ((p69.ne rfl).trans ((p68.ne rfl).trans ((p67.ne rfl).trans ((p66.ne rfl).trans ((p65.ne rfl).trans ((p64.ne rfl).trans ((p63.ne rfl).trans ((p62.ne rfl).trans ((p61.ne rfl).trans ((p60.ne rfl).trans ((p59.ne rfl).trans ((p58.ne rfl).trans ((p57.ne rfl).trans (p56.ne rfl)))))))))))))).trans s14
                replace s15 : a69.eval (.tmp 15) = .int .i64 ((la : Nat) : Int) := ((p69.ne rfl).trans ((p68.ne rfl).trans ((p67.ne rfl).trans ((p66.ne rfl).trans ((p65.ne rfl).trans ((p64.ne rfl).trans ((p63.ne rfl).trans ((p62.ne rfl).trans ((p61.ne rfl).trans ((p60.ne rfl).trans ((p59.ne rfl).trans ((p58.ne rfl).trans ((p57.ne rfl).trans (p56.ne rfl)))))))))))))).trans s15
                replace s82 : a69.eval (.tmp 82) = .bool true := ((p69.ne rfl).trans ((p68.ne rfl).trans ((p67.ne rfl).trans ((p66.ne rfl).trans ((p65.ne rfl).trans ((p64.ne rfl).trans ((p63.ne rfl).trans ((p62.ne rfl).trans ((p61.ne rfl).trans ((p60.ne rfl).trans ((p59.ne rfl).trans ((p58.ne rfl).trans ((p57.ne rfl).trans (p56.ne rfl)))))))))))))).trans s82
                replace s17 : a69.eval (.tmp 17) = .int .i64 ((i : Nat) : Int) := ((p69.ne rfl).trans ((p68.ne rfl).trans ((p67.ne rfl).trans ((p66.ne rfl).trans ((p65.ne rfl).trans ((p64.ne rfl).trans ((p63.ne rfl).trans ((p62.ne rfl).trans ((p61.ne rfl).trans ((p60.ne rfl).trans ((p59.ne rfl).trans ((p58.ne rfl).trans ((p57.ne rfl).trans (p56.ne rfl)))))))))))))).trans s17
                replace s105 : a69.eval (.tmp 105) = .bool true := ((p69.ne rfl).trans ((p68.ne rfl).trans ((p67.ne rfl).trans ((p66.ne rfl).trans ((p65.ne rfl).trans ((p64.ne rfl).trans ((p63.ne rfl).trans ((p62.ne rfl).trans ((p61.ne rfl).trans ((p60.ne rfl).trans ((p59.ne rfl).trans ((p58.ne rfl).trans ((p57.ne rfl).trans (p56.ne rfl)))))))))))))).trans s105
                refine hK111 _ _ ?_
                clear hK111
                refine wp_region_lit ?_
                refine q_val rfl rfl ?_
                refine g_move rfl s17 ?_
                intro a70 p70
                have s106 : a70.eval (.tmp 106) = .int .i64 ((i : Nat) : Int) := p70.at hs (by decide)
                replace hs := p70.st hs
                refine q_val rfl rfl ?_
                refine g_add (r := ((i + 1 : Nat) : Int)) rfl s106 rfl (by omega) (by omega) ?_
                intro a71 p71
                have s107 : a71.eval (.tmp 107) = .int .i64 ((i + 1 : Nat) : Int) := p71.at hs (by decide)
                replace hs := p71.st hs
                refine q_val rfl rfl ?_
                refine g_assign rfl s107 ?_
                intro a72 p72
                have s17 : a72.eval (.tmp 17) = .int .i64 ((i + 1 : Nat) : Int) := p72.at hs (by decide)
                replace hs := p72.st hs
                refine wpList_nil ?_
                replace s2 : a72.eval (.tmp 2) = .bool false := ((p72.ne rfl).trans ((p71.ne rfl).trans (p70.ne rfl))).trans s2
                replace s3 : a72.eval (.tmp 3) = .slice O os.length co := ((p72.ne rfl).trans ((p71.ne rfl).trans (p70.ne rfl))).trans s3
                replace s5 : a72.eval (.tmp 5) = .slice FI os.length cf := ((p72.ne rfl).trans ((p71.ne rfl).trans (p70.ne rfl))).trans s5
                replace s8 : a72.eval (.tmp 8) = .slice G41 fr.length g41 := ((p72.ne rfl).trans ((p71.ne rfl).trans (p70.ne rfl))).trans s8
                replace s9 : a72.eval (.tmp 9) = .slice KP nk ck := ((p72.ne rfl).trans ((p71.ne rfl).trans (p70.ne rfl))).trans s9
                replace s10 : a72.eval (.tmp 10) = .slice TH N ct := ((p72.ne rfl).trans ((p71.ne rfl).trans (p70.ne rfl))).trans s10
                replace s13 : a72.eval (.tmp 13) = .slice WA nw cw := ((p72.ne rfl).trans ((p71.ne rfl).trans (p70.ne rfl))).trans s13
                replace s14 : a72.eval (.tmp 14) = .int .i64 ((k : Nat) : Int) := ((p72.ne rfl).trans ((p71.ne rfl).trans (p70.ne rfl))).trans s14
                replace s15 : a72.eval (.tmp 15) = .int .i64 ((la : Nat) : Int) := ((p72.ne rfl).trans ((p71.ne rfl).trans (p70.ne rfl))).trans s15
                replace s82 : a72.eval (.tmp 82) = .bool true := ((p72.ne rfl).trans ((p71.ne rfl).trans (p70.ne rfl))).trans s82
                replace s16 : a72.eval (.tmp 16) = .bool ((tsL (tOf bs) N)[i]) := ((p72.ne rfl).trans ((p71.ne rfl).trans (p70.ne rfl))).trans s16
                replace s105 : a72.eval (.tmp 105) = .bool true := ((p72.ne rfl).trans ((p71.ne rfl).trans (p70.ne rfl))).trans s105
                refine show _ ∧ _ from ⟨⟨i + 1, hs, s2, s3, s5, s8, s9, s10, s13, s14, s15, (Eq.trans s16 (congrArg Value.bool ((tsL_at (tOf bs) _ _ h_lts).trans (whT_yes (tOf bs) hi0 hwt).symm))), s17, s82, hB, h_q9, h_q43, o_os, o_e, o_fi, o_x39, o_x41, o_f41, o_kp, o_th, o_wa, (by omega), (by omega)⟩, ?_⟩
                show la / 24 + 1 - (intOf (a72.eval (.tmp 17))).toNat < la / 24 + 1 - (intOf (a51.eval (.tmp 17))).toNat
                rw [s17, mu107]
                simp only [intOf]
                omega
            · replace s105 := s105.trans (congrArg Value.bool (decide_eq_false hc110))
              replace s105 : a55.eval (.tmp 105) = .bool false := s105
              refine c_false s105 ?_
              refine wp_exit ?_
              refine hK99 _ _ ?_
              clear hK99
              refine wp_seq_k fun K116 hK116 => ?_
              refine wp_region_lit ?_
              refine q_val rfl rfl ?_
              refine g_move rfl s16 ?_
              intro a56 p56
              have s121 : a56.eval (.tmp 121) = .bool (whT (tOf bs) (sAt os k / 24) i) := p56.at hs (by decide)
              replace hs := p56.st hs
              refine wpList_nil ?_
              replace s2 : a56.eval (.tmp 2) = .bool false := (p56.ne rfl).trans s2
              replace s3 : a56.eval (.tmp 3) = .slice O os.length co := (p56.ne rfl).trans s3
              replace s5 : a56.eval (.tmp 5) = .slice FI os.length cf := (p56.ne rfl).trans s5
              replace s8 : a56.eval (.tmp 8) = .slice G41 fr.length g41 := (p56.ne rfl).trans s8
              replace s9 : a56.eval (.tmp 9) = .slice KP nk ck := (p56.ne rfl).trans s9
              replace s10 : a56.eval (.tmp 10) = .slice TH N ct := (p56.ne rfl).trans s10
              replace s13 : a56.eval (.tmp 13) = .slice WA nw cw := (p56.ne rfl).trans s13
              replace s14 : a56.eval (.tmp 14) = .int .i64 ((k : Nat) : Int) := (p56.ne rfl).trans s14
              replace s15 : a56.eval (.tmp 15) = .int .i64 ((la : Nat) : Int) := (p56.ne rfl).trans s15
              replace s82 : a56.eval (.tmp 82) = .bool true := (p56.ne rfl).trans s82
              replace s16 : a56.eval (.tmp 16) = .bool (whT (tOf bs) (sAt os k / 24) i) := (p56.ne rfl).trans s16
              replace s17 : a56.eval (.tmp 17) = .int .i64 ((i : Nat) : Int) := (p56.ne rfl).trans s17
              replace s105 : a56.eval (.tmp 105) = .bool false := (p56.ne rfl).trans s105
              refine hK116 _ _ ?_
              clear hK116
              cases hwh : whT (tOf bs) (sAt os k / 24) i
              · replace s16 := s16.trans (congrArg Value.bool hwh)
                replace s16 : a56.eval (.tmp 16) = .bool false := s16
                replace s121 := s121.trans (congrArg Value.bool hwh)
                replace s121 : a56.eval (.tmp 121) = .bool false := s121
                refine c_false s121 ?_
                refine wp_skip ?_
                refine hK87 _ _ ?_
                clear hK87
                refine wp_region_lit ?_
                refine q_val rfl rfl ?_
                refine g_move rfl s14 ?_
                intro a57 p57
                have s83 : a57.eval (.tmp 83) = .int .i64 ((k : Nat) : Int) := p57.at hs (by decide)
                replace hs := p57.st hs
                refine q_val rfl rfl ?_
                refine g_add (r := ((k + 1 : Nat) : Int)) rfl s83 rfl (by omega) (by omega) ?_
                intro a58 p58
                have s84 : a58.eval (.tmp 84) = .int .i64 ((k + 1 : Nat) : Int) := p58.at hs (by decide)
                replace hs := p58.st hs
                refine q_val rfl rfl ?_
                refine g_assign rfl s84 ?_
                intro a59 p59
                have s14 : a59.eval (.tmp 14) = .int .i64 ((k + 1 : Nat) : Int) := p59.at hs (by decide)
                replace hs := p59.st hs
                refine wpList_nil ?_
                replace s2 : a59.eval (.tmp 2) = .bool false := ((p59.ne rfl).trans ((p58.ne rfl).trans (p57.ne rfl))).trans s2
                replace s3 : a59.eval (.tmp 3) = .slice O os.length co := ((p59.ne rfl).trans ((p58.ne rfl).trans (p57.ne rfl))).trans s3
                replace s5 : a59.eval (.tmp 5) = .slice FI os.length cf := ((p59.ne rfl).trans ((p58.ne rfl).trans (p57.ne rfl))).trans s5
                replace s8 : a59.eval (.tmp 8) = .slice G41 fr.length g41 := ((p59.ne rfl).trans ((p58.ne rfl).trans (p57.ne rfl))).trans s8
                replace s9 : a59.eval (.tmp 9) = .slice KP nk ck := ((p59.ne rfl).trans ((p58.ne rfl).trans (p57.ne rfl))).trans s9
                replace s10 : a59.eval (.tmp 10) = .slice TH N ct := ((p59.ne rfl).trans ((p58.ne rfl).trans (p57.ne rfl))).trans s10
                replace s13 : a59.eval (.tmp 13) = .slice WA nw cw := ((p59.ne rfl).trans ((p58.ne rfl).trans (p57.ne rfl))).trans s13
                replace s15 : a59.eval (.tmp 15) = .int .i64 ((la : Nat) : Int) := ((p59.ne rfl).trans ((p58.ne rfl).trans (p57.ne rfl))).trans s15
                replace s82 : a59.eval (.tmp 82) = .bool true := ((p59.ne rfl).trans ((p58.ne rfl).trans (p57.ne rfl))).trans s82
                replace s16 : a59.eval (.tmp 16) = .bool false := ((p59.ne rfl).trans ((p58.ne rfl).trans (p57.ne rfl))).trans s16
                replace s17 : a59.eval (.tmp 17) = .int .i64 ((i : Nat) : Int) := ((p59.ne rfl).trans ((p58.ne rfl).trans (p57.ne rfl))).trans s17
                replace s105 : a59.eval (.tmp 105) = .bool false := ((p59.ne rfl).trans ((p58.ne rfl).trans (p57.ne rfl))).trans s105
                replace s121 : a59.eval (.tmp 121) = .bool false := ((p59.ne rfl).trans ((p58.ne rfl).trans (p57.ne rfl))).trans s121
                rw [whT_end (tOf bs) (s := sAt os k) (l := 4 + (os[k].f2).length) (by omega)] at hwh
                rw [want_no (tOf bs) hlt hwh] at o_wa
                refine show _ ∧ _ from ⟨⟨k + 1, _, _, _, hs, s2, s3, s5, s8, s9, s10, s13, s14, hB, h_q9, h_q43, o_os, o_e, o_fi, o_x39, o_x41, o_f41, o_kp, o_th, o_wa, d_wa_q9, d_wa_q43, m_os_wa, m_wa_os, m_e_wa, m_wa_e, m_fi_wa, m_wa_fi, m_x39_wa, m_wa_x39, m_x41_wa, m_wa_x41, m_f41_wa, m_wa_f41, m_kp_wa, m_wa_kp, m_th_wa, m_wa_th, g_wa, (by omega), (by rw [← want_no (tOf bs) hlt hwh]; exact hnw), (by omega)⟩, ?_⟩
                show os.length - (intOf (a59.eval (.tmp 14))).toNat < os.length - (intOf (a38.eval (.tmp 14))).toNat
                rw [s14, mu83]
                simp only [intOf]
                omega
              · replace s16 := s16.trans (congrArg Value.bool hwh)
                replace s16 : a56.eval (.tmp 16) = .bool true := s16
                replace s121 := s121.trans (congrArg Value.bool hwh)
                replace s121 : a56.eval (.tmp 121) = .bool true := s121
                refine c_true s121 ?_
                refine wp_region_lit ?_
                refine q_val rfl rfl ?_
                refine g_move rfl s13 ?_
                intro a57 p57
                have s122 : a57.eval (.tmp 122) = .slice WA nw cw := p57.at hs (by decide)
                replace hs := p57.st hs
                refine q_val rfl rfl ?_
                refine g_move rfl ((p57.ne rfl).trans s3) ?_
                intro a58 p58
                have s123 : a58.eval (.tmp 123) = .slice O os.length co := p58.at hs (by decide)
                replace hs := p58.st hs
                refine q_val rfl rfl ?_
                refine g_move rfl (((p58.ne rfl).trans (p57.ne rfl)).trans s14) ?_
                intro a59 p59
                have s124 : a59.eval (.tmp 124) = .int .i64 ((k : Nat) : Int) := p59.at hs (by decide)
                replace hs := p59.st hs
                obtain ⟨b117, o118, hA119, hl_hc120, hc120⟩ := Rd.get cPacket_len (Rd.of_own o_os) rfl (i := k) (by omega)
                refine q_val rfl rfl ?_
                refine g_index (r := o118 + k * 3) (k := k) rfl (((p59.ne rfl).trans s123).trans (slice_at hA119)) s124 Try.underlying24 (fun w => Try.sizeOf32 w) (by omega) rfl ?_
                intro a60 p60
                have s125 : a60.eval (.tmp 125) = .pointer (some ⟨b117, o118 + k * 3, none⟩) := p60.at hs (by decide)
                replace hs := p60.st hs
                refine q_val rfl rfl ?_
                refine g_loadA (l := cPacket os[k]) rfl s125 Try.isAgg32 Try.sizeOf32 rfl (fun j u hu => by rw [Nat.add_assoc]; exact hc120 j u (by have := (List.getElem?_eq_some_iff.1 hu).1; exact this) hu) ?_
                intro a61 p61
                have s126 : a61.eval (.tmp 126) = .agg #[.int .i64 (os[k].f0), .int .i64 (os[k].f1), .string ⟨(os[k].f2).toArray⟩] := p61.at hs (by decide)
                replace hs := p61.st hs
                refine q_val rfl rfl ?_
                refine g_bslice1 (cs := #[.int .i64 (os[k].f0), .int .i64 (os[k].f1), .string ⟨(os[k].f2).toArray⟩]) rfl Try.underlying24 Try.sizeOf32 Try.zeroValue32 s126 (by kernel_rfl) rfl (by decide) ?_
                intro q121 w122 N_q121
                have n_q9_q121 := N_q121.ne ⟨lt_of_block h_q9⟩
                have n_q121_q9 := n_q9_q121.symm
                have n_q43_q121 := N_q121.ne ⟨lt_of_block h_q43⟩
                have n_q121_q43 := n_q43_q121.symm
                have d_os_q121 := own_ne_new o_os N_q121
                have d_e_q121 := own_ne_new o_e N_q121
                have d_fi_q121 := own_ne_new o_fi N_q121
                have d_x39_q121 := own_ne_new o_x39 N_q121
                have d_x41_q121 := own_ne_new o_x41 N_q121
                have d_f41_q121 := own_ne_new o_f41 N_q121
                have d_kp_q121 := own_ne_new o_kp N_q121
                have d_th_q121 := own_ne_new o_th N_q121
                have d_wa_q121 := own_ne_new o_wa N_q121
                have g_q121 : GeB w.heap.size q121 := ⟨Nat.le_trans hB.size N_q121.lo⟩
                replace h_q9 := keep_below h_q9 N_q121.below
                replace h_q43 := keep_below h_q43 N_q121.below
                replace o_os := own_below o_os N_q121.below
                replace o_e := own_below o_e N_q121.below
                replace o_fi := own_below o_fi N_q121.below
                replace o_x39 := own_below o_x39 N_q121.below
                replace o_x41 := own_below o_x41 N_q121.below
                replace o_f41 := own_below o_f41 N_q121.below
                replace o_kp := own_below o_kp N_q121.below
                replace o_th := own_below o_th N_q121.below
                replace o_wa := own_below o_wa N_q121.below
                replace hB := below_new hB hB.size N_q121
                have h_q121 := N_q121.here
                clear N_q121
                intro a62 p62
                have s127 : a62.eval (.tmp 127) = .slice (some ⟨q121, 0, none⟩) 1 1 := p62.at hs (by decide)
                replace hs := p62.st hs
                refine q_val rfl rfl ?_
                refine g_append (n' := nw + 1) (ys := ((wantL (tOf bs) 0 (os.take k)) ++ ([os[k]])).flatMap cPacket) w.heap.size (.agg #[.int .i64 0, .int .i64 0, .string ⟨#[]⟩]) 3 32 rfl (((p62.ne rfl).trans ((p61.ne rfl).trans ((p60.ne rfl).trans ((p59.ne rfl).trans (p58.ne rfl))))).trans s122) s127 Try.underlying24 infoPacket rfl (by decide) o_wa (fun h => by cases h) (rd_box (xs := ([os[k]]).flatMap cPacket) h_q121 rfl rfl) (flatPacket_one _) (by omega) hB.size (by decide) (by omega) (by first | rfl | simp [List.flatMap_append] | (simp [List.flatMap_append, cPacket]; done)) ?_
                intro A_r123 c_r123 w124 P_r123
                have d_r123_q9 := P_r123.ne d_wa_q9 (lt_of_block h_q9)
                have d_r123_q43 := P_r123.ne d_wa_q43 (lt_of_block h_q43)
                have d_r123_q121 := P_r123.ne d_wa_q121 (lt_of_block h_q121)
                have m_os_r123 := P_r123.row m_os_wa o_os
                have m_r123_os := ne_row_symm m_os_r123
                have m_e_r123 := P_r123.row m_e_wa o_e
                have m_r123_e := ne_row_symm m_e_r123
                have m_fi_r123 := P_r123.row m_fi_wa o_fi
                have m_r123_fi := ne_row_symm m_fi_r123
                have m_x39_r123 := P_r123.row m_x39_wa o_x39
                have m_r123_x39 := ne_row_symm m_x39_r123
                have m_x41_r123 := P_r123.row m_x41_wa o_x41
                have m_r123_x41 := ne_row_symm m_x41_r123
                have m_f41_r123 := P_r123.row m_f41_wa o_f41
                have m_r123_f41 := ne_row_symm m_f41_r123
                have m_kp_r123 := P_r123.row m_kp_wa o_kp
                have m_r123_kp := ne_row_symm m_kp_r123
                have m_th_r123 := P_r123.row m_th_wa o_th
                have m_r123_th := ne_row_symm m_th_r123
                have g_r123 := P_r123.ge g_wa hB.size
                replace h_q9 := keep_grown h_q9 P_r123.grown d_wa_q9
                replace h_q43 := keep_grown h_q43 P_r123.grown d_wa_q43
                replace h_q121 := keep_grown h_q121 P_r123.grown d_wa_q121
                replace o_os := own_grown o_os P_r123.grown m_os_wa
                replace o_e := own_grown o_e P_r123.grown m_e_wa
                replace o_fi := own_grown o_fi P_r123.grown m_fi_wa
                replace o_x39 := own_grown o_x39 P_r123.grown m_x39_wa
                replace o_x41 := own_grown o_x41 P_r123.grown m_x41_wa
                replace o_f41 := own_grown o_f41 P_r123.grown m_f41_wa
                replace o_kp := own_grown o_kp P_r123.grown m_kp_wa
                replace o_th := own_grown o_th P_r123.grown m_th_wa
                replace hB := below_grown hB hB.size P_r123.grown g_wa
                have o_r123 := P_r123.own
                clear P_r123
                intro a63 p63
                have s128 : a63.eval (.tmp 128) = .slice A_r123 (nw + 1) c_r123 := p63.at hs (by decide)
                replace hs := p63.st hs
                refine q_val rfl rfl ?_
                refine g_assign rfl s128 ?_
                intro a64 p64
                have s13 : a64.eval (.tmp 13) = .slice A_r123 (nw + 1) c_r123 := p64.at hs (by decide)
                replace hs := p64.st hs
                refine wpList_nil ?_
                replace s2 : a64.eval (.tmp 2) = .bool false := ((p64.ne rfl).trans ((p63.ne rfl).trans ((p62.ne rfl).trans ((p61.ne rfl).trans ((p60.ne rfl).trans ((p59.ne rfl).trans ((p58.ne rfl).trans (p57.ne rfl)))))))).trans s2
                replace s3 : a64.eval (.tmp 3) = .slice O os.length co := ((p64.ne rfl).trans ((p63.ne rfl).trans ((p62.ne rfl).trans ((p61.ne rfl).trans ((p60.ne rfl).trans ((p59.ne rfl).trans ((p58.ne rfl).trans (p57.ne rfl)))))))).trans s3
                replace s5 : a64.eval (.tmp 5) = .slice FI os.length cf := ((p64.ne rfl).trans ((p63.ne rfl).trans ((p62.ne rfl).trans ((p61.ne rfl).trans ((p60.ne rfl).trans ((p59.ne rfl).trans ((p58.ne rfl).trans (p57.ne rfl)))))))).trans s5
                replace s8 : a64.eval (.tmp 8) = .slice G41 fr.length g41 := ((p64.ne rfl).trans ((p63.ne rfl).trans ((p62.ne rfl).trans ((p61.ne rfl).trans ((p60.ne rfl).trans ((p59.ne rfl).trans ((p58.ne rfl).trans (p57.ne rfl)))))))).trans s8
                replace s9 : a64.eval (.tmp 9) = .slice KP nk ck := ((p64.ne rfl).trans ((p63.ne rfl).trans ((p62.ne rfl).trans ((p61.ne rfl).trans ((p60.ne rfl).trans ((p59.ne rfl).trans ((p58.ne rfl).trans (p57.ne rfl)))))))).trans s9
                replace s10 : a64.eval (.tmp 10) = .slice TH N ct := ((p64.ne rfl).trans ((p63.ne rfl).trans ((p62.ne rfl).trans ((p61.ne rfl).trans ((p60.ne rfl).trans ((p59.ne rfl).trans ((p58.ne rfl).trans (p57.ne rfl)))))))).trans s10
                replace s14 : a64.eval (.tmp 14) = .int .i64 ((k : Nat) : Int) := ((p64.ne rfl).trans ((p63.ne rfl).trans ((p62.ne rfl).trans ((p61.ne rfl).trans ((p60.ne rfl).trans ((p59.ne rfl).trans ((p58.ne rfl).trans (p57.ne rfl)))))))).trans s14
                replace s15 : a64.eval (.tmp 15) = .int .i64 ((la : Nat) : Int) := ((p64.ne rfl).trans ((p63.ne rfl).trans ((p62.ne rfl).trans ((p61.ne rfl).trans ((p60.ne rfl).trans ((p59.ne rfl).trans ((p58.ne rfl).trans (p57.ne rfl)))))))).trans s15
                replace s82 : a64.eval (.tmp 82) = .bool true := ((p64.ne rfl).trans ((p63.ne rfl).trans ((p62.ne rfl).trans ((p61.ne rfl).trans ((p60.ne rfl).trans ((p59.ne rfl).trans ((p58.ne rfl).trans (p57.ne rfl)))))))).trans s82
                replace s16 : a64.eval (.tmp 16) = .bool true := ((p64.ne rfl).trans ((p63.ne rfl).trans ((p62.ne rfl).trans ((p61.ne rfl).trans ((p60.ne rfl).trans ((p59.ne rfl).trans ((p58.ne rfl).trans (p57.ne rfl)))))))).trans s16
                replace s17 : a64.eval (.tmp 17) = .int .i64 ((i : Nat) : Int) := ((p64.ne rfl).trans ((p63.ne rfl).trans ((p62.ne rfl).trans ((p61.ne rfl).trans ((p60.ne rfl).trans ((p59.ne rfl).trans ((p58.ne rfl).trans (p57.ne rfl)))))))).trans s17
                replace s105 : a64.eval (.tmp 105) = .bool false := ((p64.ne rfl).trans ((p63.ne rfl).trans ((p62.ne rfl).trans ((p61.ne rfl).trans ((p60.ne rfl).trans ((p59.ne rfl).trans ((p58.ne rfl).trans (p57.ne rfl)))))))).trans s105
                replace s121 : a64.eval (.tmp 121) = .bool true := ((p64.ne rfl).trans ((p63.ne rfl).trans ((p62.ne rfl).trans ((p61.ne rfl).trans ((p60.ne rfl).trans ((p59.ne rfl).trans ((p58.ne rfl).trans (p57.ne rfl)))))))).trans s121
                refine hK87 _ _ ?_
                clear hK87
                refine wp_region_lit ?_
                refine q_val rfl rfl ?_
                refine g_move rfl s14 ?_
                intro a65 p65
                have s83 : a65.eval (.tmp 83) = .int .i64 ((k : Nat) : Int) := p65.at hs (by decide)
                replace hs := p65.st hs
                refine q_val rfl rfl ?_
                refine g_add (r := ((k + 1 : Nat) : Int)) rfl s83 rfl (by omega) (by omega) ?_
                intro a66 p66
                have s84 : a66.eval (.tmp 84) = .int .i64 ((k + 1 : Nat) : Int) := p66.at hs (by decide)
                replace hs := p66.st hs
                refine q_val rfl rfl ?_
                refine g_assign rfl s84 ?_
                intro a67 p67
                have s14 : a67.eval (.tmp 14) = .int .i64 ((k + 1 : Nat) : Int) := p67.at hs (by decide)
                replace hs := p67.st hs
                refine wpList_nil ?_
                replace s2 : a67.eval (.tmp 2) = .bool false := ((p67.ne rfl).trans ((p66.ne rfl).trans (p65.ne rfl))).trans s2
                replace s3 : a67.eval (.tmp 3) = .slice O os.length co := ((p67.ne rfl).trans ((p66.ne rfl).trans (p65.ne rfl))).trans s3
                replace s5 : a67.eval (.tmp 5) = .slice FI os.length cf := ((p67.ne rfl).trans ((p66.ne rfl).trans (p65.ne rfl))).trans s5
                replace s8 : a67.eval (.tmp 8) = .slice G41 fr.length g41 := ((p67.ne rfl).trans ((p66.ne rfl).trans (p65.ne rfl))).trans s8
                replace s9 : a67.eval (.tmp 9) = .slice KP nk ck := ((p67.ne rfl).trans ((p66.ne rfl).trans (p65.ne rfl))).trans s9
                replace s10 : a67.eval (.tmp 10) = .slice TH N ct := ((p67.ne rfl).trans ((p66.ne rfl).trans (p65.ne rfl))).trans s10
                replace s13 : a67.eval (.tmp 13) = .slice A_r123 (nw + 1) c_r123 := ((p67.ne rfl).trans ((p66.ne rfl).trans (p65.ne rfl))).trans s13
                replace s15 : a67.eval (.tmp 15) = .int .i64 ((la : Nat) : Int) := ((p67.ne rfl).trans ((p66.ne rfl).trans (p65.ne rfl))).trans s15
                replace s82 : a67.eval (.tmp 82) = .bool true := ((p67.ne rfl).trans ((p66.ne rfl).trans (p65.ne rfl))).trans s82
                replace s16 : a67.eval (.tmp 16) = .bool true := ((p67.ne rfl).trans ((p66.ne rfl).trans (p65.ne rfl))).trans s16
                replace s17 : a67.eval (.tmp 17) = .int .i64 ((i : Nat) : Int) := ((p67.ne rfl).trans ((p66.ne rfl).trans (p65.ne rfl))).trans s17
                replace s105 : a67.eval (.tmp 105) = .bool false := ((p67.ne rfl).trans ((p66.ne rfl).trans (p65.ne rfl))).trans s105
                replace s121 : a67.eval (.tmp 121) = .bool true := ((p67.ne rfl).trans ((p66.ne rfl).trans (p65.ne rfl))).trans s121
                rw [whT_end (tOf bs) (s := sAt os k) (l := 4 + (os[k].f2).length) (by omega)] at hwh
                rw [want_yes (tOf bs) hlt hwh] at o_r123
                have o_wa := o_r123
                have g_wa := g_r123
                have d_wa_q9 := d_r123_q9
                have d_wa_q43 := d_r123_q43
                have m_os_wa := m_os_r123
                have m_wa_os := m_r123_os
                have m_e_wa := m_e_r123
                have m_wa_e := m_r123_e
                have m_fi_wa := m_fi_r123
                have m_wa_fi := m_r123_fi
                have m_x39_wa := m_x39_r123
                have m_wa_x39 := m_r123_x39
                have m_x41_wa := m_x41_r123
                have m_wa_x41 := m_r123_x41
                have m_f41_wa := m_f41_r123
                have m_wa_f41 := m_r123_f41
                have m_kp_wa := m_kp_r123
                have m_wa_kp := m_r123_kp
                have m_th_wa := m_th_r123
                have m_wa_th := m_r123_th
                refine show _ ∧ _ from ⟨⟨k + 1, _, _, _, hs, s2, s3, s5, s8, s9, s10, s13, s14, hB, h_q9, h_q43, o_os, o_e, o_fi, o_x39, o_x41, o_f41, o_kp, o_th, o_wa, d_wa_q9, d_wa_q43, m_os_wa, m_wa_os, m_e_wa, m_wa_e, m_fi_wa, m_wa_fi, m_x39_wa, m_wa_x39, m_x41_wa, m_wa_x41, m_f41_wa, m_wa_f41, m_kp_wa, m_wa_kp, m_th_wa, m_wa_th, g_wa, (by omega), (by rw [← want_yes (tOf bs) hlt hwh, List.length_append, hnw]; rfl), (by omega)⟩, ?_⟩
                show os.length - (intOf (a67.eval (.tmp 14))).toNat < os.length - (intOf (a38.eval (.tmp 14))).toNat
                rw [s14, mu83]
                simp only [intOf]
                omega
        · replace s82 := s82.trans (congrArg Value.bool (decide_eq_false hc86))
          replace s82 : a42.eval (.tmp 82) = .bool false := s82
          refine c_false s82 ?_
          refine wp_exit ?_
          refine hK79 _ _ ?_
          clear hK79
          refine wp_seq_k fun K125 hK125 => ?_
          have hkz : k = os.length := by omega
          subst hkz
          rw [List.take_length] at o_wa hnw
          refine wp_region_lit ?_
          refine q_val rfl rfl ?_
          refine g_call rfl rfl Try.call14 (arr1 rfl) ?_
          refine (newUnpacker_any _).mono ?_
          rintro e w127 ⟨rfl, hb126⟩
          refine ⟨_, rfl, ?_⟩
          replace h_q9 := keep_below h_q9 hb126
          replace h_q43 := keep_below h_q43 hb126
          replace o_os := own_below o_os hb126
          replace o_e := own_below o_e hb126
          replace o_fi := own_below o_fi hb126
          replace o_x39 := own_below o_x39 hb126
          replace o_x41 := own_below o_x41 hb126
          replace o_f41 := own_below o_f41 hb126
          replace o_kp := own_below o_kp hb126
          replace o_th := own_below o_th hb126
          replace o_wa := own_below o_wa hb126
          replace hB := hB.trans (hb126.mono hB.size)
          clear hb126
          intro a43 p43
          have s130 : a43.eval (.tmp 130) = .agg #[.int .i64 newU.ch, .int .i64 newU.nx, .bool newU.sy, .string ⟨(newU.rest).toArray⟩, .int .i64 newU.lost] := p43.at hs (by decide)
          replace hs := p43.st hs
          refine q_val rfl rfl ?_
          refine g_move rfl ((p43.ne rfl).trans s9) ?_
          intro a44 p44
          have s131 : a44.eval (.tmp 131) = .slice KP nk ck := p44.at hs (by decide)
          replace hs := p44.st hs
          refine q_val rfl rfl ?_
          refine g_call rfl rfl Try.call13 (arr2 ((p44.ne rfl).trans s130) s131) ?_
          refine (pushFrames_any (u := newU) _ _ _ (keptF (tOf bs) (os ++ I39) 0 0 N) _ hl1 hnk (by omega) (Rd.of_own o_kp)).mono ?_
          rintro e w129 ⟨A128, c128, rfl, o_x128, hb128⟩
          refine ⟨_, rfl, ?_⟩
          have d_x128_q9 := own_ne_box o_x128 (lt_of_block h_q9)
          have d_x128_q43 := own_ne_box o_x128 (lt_of_block h_q43)
          have m_os_x128 := own_ne_row o_os o_x128 (Nat.le_refl _)
          have m_x128_os := ne_row_symm m_os_x128
          have m_e_x128 := own_ne_row o_e o_x128 (Nat.le_refl _)
          have m_x128_e := ne_row_symm m_e_x128
          have m_fi_x128 := own_ne_row o_fi o_x128 (Nat.le_refl _)
          have m_x128_fi := ne_row_symm m_fi_x128
          have m_x39_x128 := own_ne_row o_x39 o_x128 (Nat.le_refl _)
          have m_x128_x39 := ne_row_symm m_x39_x128
          have m_x41_x128 := own_ne_row o_x41 o_x128 (Nat.le_refl _)
          have m_x128_x41 := ne_row_symm m_x41_x128
          have m_f41_x128 := own_ne_row o_f41 o_x128 (Nat.le_refl _)
          have m_x128_f41 := ne_row_symm m_f41_x128
          have m_kp_x128 := own_ne_row o_kp o_x128 (Nat.le_refl _)
          have m_x128_kp := ne_row_symm m_kp_x128
          have m_th_x128 := own_ne_row o_th o_x128 (Nat.le_refl _)
          have m_x128_th := ne_row_symm m_th_x128
          have m_wa_x128 := own_ne_row o_wa o_x128 (Nat.le_refl _)
          have m_x128_wa := ne_row_symm m_wa_x128
          have g_x128 : ∀ b, (A128 : Option Addr).map (·.block) = some b → w.heap.size ≤ b := fun b h => Nat.le_trans hB.size (own_row o_x128 b h).1
          replace o_x128 := own_base (base := w.heap.size) o_x128 hB.size
          replace h_q9 := keep_below h_q9 hb128
          replace h_q43 := keep_below h_q43 hb128
          replace o_os := own_below o_os hb128
          replace o_e := own_below o_e hb128
          replace o_fi := own_below o_fi hb128
          replace o_x39 := own_below o_x39 hb128
          replace o_x41 := own_below o_x41 hb128
          replace o_f41 := own_below o_f41 hb128
          replace o_kp := own_below o_kp hb128
          replace o_th := own_below o_th hb128
          replace o_wa := own_below o_wa hb128
          replace hB := hB.trans (hb128.mono hB.size)
          clear hb128
          intro a45 p45
          have s132 : a45.eval (.tmp 132) = .tuple #[.agg #[.int .i64 ((pushUs newU (keptF (tOf bs) (os ++ I39) 0 0 N)).ch), .int .i64 ((pushUs newU (keptF (tOf bs) (os ++ I39) 0 0 N)).nx), .bool ((pushUs newU (keptF (tOf bs) (os ++ I39) 0 0 N)).sy), .string ⟨((pushUs newU (keptF (tOf bs) (os ++ I39) 0 0 N)).rest).toArray⟩, .int .i64 ((pushUs newU (keptF (tOf bs) (os ++ I39) 0 0 N)).lost)], .slice A128 ((pushLs newU (keptF (tOf bs) (os ++ I39) 0 0 N)).length) c128] := p45.at hs (by decide)
          replace hs := p45.st hs
          refine q_val rfl rfl ?_
          refine g_move rfl s132 ?_
          intro a46 p46
          have s129 : a46.eval (.tmp 129) = .tuple #[.agg #[.int .i64 ((pushUs newU (keptF (tOf bs) (os ++ I39) 0 0 N)).ch), .int .i64 ((pushUs newU (keptF (tOf bs) (os ++ I39) 0 0 N)).nx), .bool ((pushUs newU (keptF (tOf bs) (os ++ I39) 0 0 N)).sy), .string ⟨((pushUs newU (keptF (tOf bs) (os ++ I39) 0 0 N)).rest).toArray⟩, .int .i64 ((pushUs newU (keptF (tOf bs) (os ++ I39) 0 0 N)).lost)], .slice A128 ((pushLs newU (keptF (tOf bs) (os ++ I39) 0 0 N)).length) c128] := p46.at hs (by decide)
          replace hs := p46.st hs
          refine q_val rfl rfl ?_
          refine g_extract rfl s129 rfl ?_
          intro a47 p47
          have s133 : a47.eval (.tmp 133) = .agg #[.int .i64 ((pushUs newU (keptF (tOf bs) (os ++ I39) 0 0 N)).ch), .int .i64 ((pushUs newU (keptF (tOf bs) (os ++ I39) 0 0 N)).nx), .bool ((pushUs newU (keptF (tOf bs) (os ++ I39) 0 0 N)).sy), .string ⟨((pushUs newU (keptF (tOf bs) (os ++ I39) 0 0 N)).rest).toArray⟩, .int .i64 ((pushUs newU (keptF (tOf bs) (os ++ I39) 0 0 N)).lost)] := p47.at hs (by decide)
          replace hs := p47.st hs
          refine q_val rfl rfl ?_
          refine g_extract rfl ((p47.ne rfl).trans s129) rfl ?_
          intro a48 p48
          have s134 : a48.eval (.tmp 134) = .slice A128 ((pushLs newU (keptF (tOf bs) (os ++ I39) 0 0 N)).length) c128 := p48.at hs (by decide)
          replace hs := p48.st hs
          refine q_val rfl rfl ?_
          refine g_alloc rfl Try.zeroValue42 rfl ?_
          intro q130 w131 N_q130
          have n_q9_q130 := N_q130.ne ⟨lt_of_block h_q9⟩
          have n_q130_q9 := n_q9_q130.symm
          have n_q43_q130 := N_q130.ne ⟨lt_of_block h_q43⟩
          have n_q130_q43 := n_q43_q130.symm
          have d_os_q130 := own_ne_new o_os N_q130
          have d_e_q130 := own_ne_new o_e N_q130
          have d_fi_q130 := own_ne_new o_fi N_q130
          have d_x39_q130 := own_ne_new o_x39 N_q130
          have d_x41_q130 := own_ne_new o_x41 N_q130
          have d_f41_q130 := own_ne_new o_f41 N_q130
          have d_kp_q130 := own_ne_new o_kp N_q130
          have d_th_q130 := own_ne_new o_th N_q130
          have d_wa_q130 := own_ne_new o_wa N_q130
          have d_x128_q130 := own_ne_new o_x128 N_q130
          have g_q130 : GeB w.heap.size q130 := ⟨Nat.le_trans hB.size N_q130.lo⟩
          replace h_q9 := keep_below h_q9 N_q130.below
          replace h_q43 := keep_below h_q43 N_q130.below
          replace o_os := own_below o_os N_q130.below
          replace o_e := own_below o_e N_q130.below
          replace o_fi := own_below o_fi N_q130.below
          replace o_x39 := own_below o_x39 N_q130.below
          replace o_x41 := own_below o_x41 N_q130.below
          replace o_f41 := own_below o_f41 N_q130.below
          replace o_kp := own_below o_kp N_q130.below
          replace o_th := own_below o_th N_q130.below
          replace o_wa := own_below o_wa N_q130.below
          replace o_x128 := own_below o_x128 N_q130.below
          replace hB := below_new hB hB.size N_q130
          have h_q130 := N_q130.here
          clear N_q130
          intro a49 p49
          have s18 : a49.eval (.tmp 18) = .pointer (some ⟨q130, 0, none⟩) := p49.at hs (by decide)
          replace hs := p49.st hs
          refine q_eff rfl rfl ?_
          refine g_storeB rfl s18 (((p49.ne rfl).trans (p48.ne rfl)).trans s133) Try.sizeOf42 rfl rfl h_q130 rfl ?_
          intro w132 W_w132
          replace h_q9 := keep_wrote h_q9 W_w132 n_q130_q9
          replace h_q43 := keep_wrote h_q43 W_w132 n_q130_q43
          replace h_q130 := W_w132.here
          replace o_os := own_wrote o_os W_w132 d_os_q130
          replace o_e := own_wrote o_e W_w132 d_e_q130
          replace o_fi := own_wrote o_fi W_w132 d_fi_q130
          replace o_x39 := own_wrote o_x39 W_w132 d_x39_q130
          replace o_x41 := own_wrote o_x41 W_w132 d_x41_q130
          replace o_f41 := own_wrote o_f41 W_w132 d_f41_q130
          replace o_kp := own_wrote o_kp W_w132 d_kp_q130
          replace o_th := own_wrote o_th W_w132 d_th_q130
          replace o_wa := own_wrote o_wa W_w132 d_wa_q130
          replace o_x128 := own_wrote o_x128 W_w132 d_x128_q130
          replace hB := below_wrote hB hB.size W_w132 g_q130.le
          clear W_w132
          refine q_val rfl rfl ?_
          refine g_assign rfl ((p49.ne rfl).trans s134) ?_
          intro a50 p50
          have s19 : a50.eval (.tmp 19) = .slice A128 ((pushLs newU (keptF (tOf bs) (os ++ I39) 0 0 N)).length) c128 := p50.at hs (by decide)
          replace hs := p50.st hs
          refine wpList_nil ?_
          replace s2 : a50.eval (.tmp 2) = .bool false := ((p50.ne rfl).trans ((p49.ne rfl).trans ((p48.ne rfl).trans ((p47.ne rfl).trans ((p46.ne rfl).trans ((p45.ne rfl).trans ((p44.ne rfl).trans (p43.ne rfl)))))))).trans s2
          replace s8 : a50.eval (.tmp 8) = .slice G41 fr.length g41 := ((p50.ne rfl).trans ((p49.ne rfl).trans ((p48.ne rfl).trans ((p47.ne rfl).trans ((p46.ne rfl).trans ((p45.ne rfl).trans ((p44.ne rfl).trans (p43.ne rfl)))))))).trans s8
          replace s9 : a50.eval (.tmp 9) = .slice KP nk ck := ((p50.ne rfl).trans ((p49.ne rfl).trans ((p48.ne rfl).trans ((p47.ne rfl).trans ((p46.ne rfl).trans ((p45.ne rfl).trans ((p44.ne rfl).trans (p43.ne rfl)))))))).trans s9
          replace s13 : a50.eval (.tmp 13) = .slice WA nw cw := ((p50.ne rfl).trans ((p49.ne rfl).trans ((p48.ne rfl).trans ((p47.ne rfl).trans ((p46.ne rfl).trans ((p45.ne rfl).trans ((p44.ne rfl).trans (p43.ne rfl)))))))).trans s13
          replace s18 : a50.eval (.tmp 18) = .pointer (some ⟨q130, 0, none⟩) := (p50.ne rfl).trans s18
          refine hK125 _ _ ?_
          clear hK125
          refine wp_seq_k fun K133 hK133 => ?_
          have hwl : (pushLs newU (keptF (tOf bs) (os ++ I39) 0 0 N)).length ≤ 7 := by rw [hl4]; omega
          refine wp_region_lit ?_
          refine q_val rfl rfl ?_
          refine g_move rfl s19 ?_
          intro a51 p51
          have s135 : a51.eval (.tmp 135) = .slice A128 ((pushLs newU (keptF (tOf bs) (os ++ I39) 0 0 N)).length) c128 := p51.at hs (by decide)
          replace hs := p51.st hs
          refine q_val rfl rfl ?_
          refine g_move rfl ((p51.ne rfl).trans s13) ?_
          intro a52 p52
          have s136 : a52.eval (.tmp 136) = .slice WA nw cw := p52.at hs (by decide)
          replace hs := p52.st hs
          refine q_val rfl rfl ?_
          refine g_call rfl rfl Try.call15 (arr2 ((p52.ne rfl).trans s135) s136) ?_
          refine (samePackets_same _ _ _ _ _ _ (pushLs newU (keptF (tOf bs) (os ++ I39) 0 0 N)) (wantL (tOf bs) 0 os) _ rfl hnw (by rw [hl4]) (by omega) (Rd.of_own o_x128) (Rd.of_own o_wa)).mono ?_
          rintro e w135 ⟨rfl, hb134⟩
          refine ⟨_, rfl, ?_⟩
          replace h_q9 := keep_below h_q9 hb134
          replace h_q43 := keep_below h_q43 hb134
          replace h_q130 := keep_below h_q130 hb134
          replace o_os := own_below o_os hb134
          replace o_e := own_below o_e hb134
          replace o_fi := own_below o_fi hb134
          replace o_x39 := own_below o_x39 hb134
          replace o_x41 := own_below o_x41 hb134
          replace o_f41 := own_below o_f41 hb134
          replace o_kp := own_below o_kp hb134
          replace o_th := own_below o_th hb134
          replace o_wa := own_below o_wa hb134
          replace o_x128 := own_below o_x128 hb134
          replace hB := hB.trans (hb134.mono hB.size)
          clear hb134
          intro a53 p53
          have s137 : a53.eval (.tmp 137) = .bool true := p53.at hs (by decide)
          replace hs := p53.st hs
          refine q_val rfl rfl ?_
          refine g_move rfl s137 ?_
          intro a54 p54
          have s138 : a54.eval (.tmp 138) = .bool true := p54.at hs (by decide)
          replace hs := p54.st hs
          refine q_take rfl rfl s138 rfl ?_
          refine g_loadB rfl (((p54.ne rfl).trans ((p53.ne rfl).trans ((p52.ne rfl).trans (p51.ne rfl)))).trans s18) Try.isAgg42 Try.sizeOf42 rfl h_q130 ?_
          intro a55 p55
          have s139 : a55.eval (.tmp 139) = .agg #[.int .i64 ((pushUs newU (keptF (tOf bs) (os ++ I39) 0 0 N)).ch), .int .i64 ((pushUs newU (keptF (tOf bs) (os ++ I39) 0 0 N)).nx), .bool ((pushUs newU (keptF (tOf bs) (os ++ I39) 0 0 N)).sy), .string ⟨((pushUs newU (keptF (tOf bs) (os ++ I39) 0 0 N)).rest).toArray⟩, .int .i64 ((pushUs newU (keptF (tOf bs) (os ++ I39) 0 0 N)).lost)] := p55.at hs (by decide)
          replace hs := p55.st hs
          refine q_take rfl rfl ((p55.ne rfl).trans s138) rfl ?_
          refine g_call rfl rfl Try.call16 (arr1 s139) ?_
          refine (unpackerOk_yes (u := (pushUs newU (keptF (tOf bs) (os ++ I39) 0 0 N))) _ hl2).mono ?_
          rintro e w137 ⟨rfl, hb136⟩
          refine ⟨_, rfl, ?_⟩
          replace h_q9 := keep_below h_q9 hb136
          replace h_q43 := keep_below h_q43 hb136
          replace h_q130 := keep_below h_q130 hb136
          replace o_os := own_below o_os hb136
          replace o_e := own_below o_e hb136
          replace o_fi := own_below o_fi hb136
          replace o_x39 := own_below o_x39 hb136
          replace o_x41 := own_below o_x41 hb136
          replace o_f41 := own_below o_f41 hb136
          replace o_kp := own_below o_kp hb136
          replace o_th := own_below o_th hb136
          replace o_wa := own_below o_wa hb136
          replace o_x128 := own_below o_x128 hb136
          replace hB := hB.trans (hb136.mono hB.size)
          clear hb136
          intro a56 p56
          have s140 : a56.eval (.tmp 140) = .bool true := p56.at hs (by decide)
          replace hs := p56.st hs
          refine q_val rfl rfl ?_
          refine g_pick_t rfl (((p56.ne rfl).trans (p55.ne rfl)).trans s138) s140 ?_
          intro a57 p57
          have s141 : a57.eval (.tmp 141) = .bool true := p57.at hs (by decide)
          replace hs := p57.st hs
          refine q_val rfl rfl ?_
          refine g_move rfl s141 ?_
          intro a58 p58
          have s142 : a58.eval (.tmp 142) = .bool true := p58.at hs (by decide)
          replace hs := p58.st hs
          refine q_take rfl rfl s142 rfl ?_
          refine g_move rfl (((p58.ne rfl).trans ((p57.ne rfl).trans ((p56.ne rfl).trans ((p55.ne rfl).trans ((p54.ne rfl).trans ((p53.ne rfl).trans ((p52.ne rfl).trans (p51.ne rfl)))))))).trans s9) ?_
          intro a59 p59
          have s143 : a59.eval (.tmp 143) = .slice KP nk ck := p59.at hs (by decide)
          replace hs := p59.st hs
          refine q_take rfl rfl ((p59.ne rfl).trans s142) rfl ?_
          refine g_len (e := _) rfl Try.underlying33 s143 ?_
          intro a60 p60
          have s144 : a60.eval (.tmp 144) = .int .i64 ((nk : Nat) : Int) := p60.at hs (by decide)
          replace hs := p60.st hs
          refine q_take rfl rfl (((p60.ne rfl).trans (p59.ne rfl)).trans s142) rfl ?_
          refine g_move rfl (((p60.ne rfl).trans ((p59.ne rfl).trans ((p58.ne rfl).trans ((p57.ne rfl).trans ((p56.ne rfl).trans ((p55.ne rfl).trans ((p54.ne rfl).trans ((p53.ne rfl).trans ((p52.ne rfl).trans (p51.ne rfl)))))))))).trans s8) ?_
          intro a61 p61
          have s145 : a61.eval (.tmp 145) = .slice G41 fr.length g41 := p61.at hs (by decide)
          replace hs := p61.st hs
          refine q_take rfl rfl (((p61.ne rfl).trans ((p60.ne rfl).trans (p59.ne rfl))).trans s142) rfl ?_
          refine g_len (e := _) rfl Try.underlying33 s145 ?_
          intro a62 p62
          have s146 : a62.eval (.tmp 146) = .int .i64 ((fr.length : Nat) : Int) := p62.at hs (by decide)
          replace hs := p62.st hs
          refine q_take rfl rfl (((p62.ne rfl).trans ((p61.ne rfl).trans ((p60.ne rfl).trans (p59.ne rfl)))).trans s142) rfl ?_
          refine g_lss rfl (((p62.ne rfl).trans (p61.ne rfl)).trans s144) s146 ?_
          intro a63 p63
          have s147 : a63.eval (.tmp 147) = .bool (decide (((nk : Nat) : Int) < ((fr.length : Nat) : Int))) := p63.at hs (by decide)
          replace hs := p63.st hs
          refine q_take rfl rfl (((p63.ne rfl).trans ((p62.ne rfl).trans ((p61.ne rfl).trans ((p60.ne rfl).trans (p59.ne rfl))))).trans s142) rfl ?_
          refine g_move rfl s147 ?_
          intro a64 p64
          have s148 : a64.eval (.tmp 148) = .bool (decide (((nk : Nat) : Int) < ((fr.length : Nat) : Int))) := p64.at hs (by decide)
          replace hs := p64.st hs
          by_cases hc138 : ((nk : Nat) : Int) < ((fr.length : Nat) : Int)
          · replace s147 := s147.trans (congrArg Value.bool (decide_eq_true hc138))
            replace s147 : a63.eval (.tmp 147) = .bool true := s147
            replace s148 := s148.trans (congrArg Value.bool (decide_eq_true hc138))
            replace s148 : a64.eval (.tmp 148) = .bool true := s148
            refine q_skip rfl rfl s148 rfl ?_
            intro a65 p65
            have s149 : a65.eval (.tmp 149) = undef := p65.at hs (by decide)
            replace hs := p65.st hs
            refine q_skip rfl rfl ((p65.ne rfl).trans s148) rfl ?_
            intro a66 p66
            have s150 : a66.eval (.tmp 150) = undef := p66.at hs (by decide)
            replace hs := p66.st hs
            refine q_skip rfl rfl (((p66.ne rfl).trans (p65.ne rfl)).trans s148) rfl ?_
            intro a67 p67
            have s151 : a67.eval (.tmp 151) = undef := p67.at hs (by decide)
            replace hs := p67.st hs
            refine q_take rfl rfl (((p67.ne rfl).trans ((p66.ne rfl).trans ((p65.ne rfl).trans ((p64.ne rfl).trans ((p63.ne rfl).trans ((p62.ne rfl).trans ((p61.ne rfl).trans ((p60.ne rfl).trans (p59.ne rfl))))))))).trans s142) rfl ?_
            refine g_pick_t rfl (((p67.ne rfl).trans ((p66.ne rfl).trans (p65.ne rfl))).trans s148) rfl ?_
            intro a68 p68
            have s152 : a68.eval (.tmp 152) = .bool true := p68.at hs (by decide)
            replace hs := p68.st hs
            refine q_val rfl rfl ?_
            refine g_pick_t rfl (((p68.ne rfl).trans ((p67.ne rfl).trans ((p66.ne rfl).trans ((p65.ne rfl).trans ((p64.ne rfl).trans ((p63.ne rfl).trans ((p62.ne rfl).trans ((p61.ne rfl).trans ((p60.ne rfl).trans (p59.ne rfl)))))))))).trans s142) s152 ?_
            intro a69 p69
            have s153 : a69.eval (.tmp 153) = .bool true := p69.at hs (by decide)
            replace hs := p69.st hs
            refine q_val rfl rfl ?_
            refine g_assign rfl s153 ?_
            intro a70 p70
            have s2 : a70.eval (.tmp 2) = .bool true := p70.at hs (by decide)
            replace hs := p70.st hs
            refine wpList_nil ?_
            refine hK133 _ _ ?_
            clear hK133
            refine wp_ret ?_
            try dsimp only [Exit.then, Exit.inBlock]
            refine ret1 hs Try.results3 (res_tmp s2) ?_
            exact ⟨rfl, hB⟩
          · replace s147 := s147.trans (congrArg Value.bool (decide_eq_false hc138))
            replace s147 : a63.eval (.tmp 147) = .bool false := s147
            replace s148 := s148.trans (congrArg Value.bool (decide_eq_false hc138))
            replace s148 : a64.eval (.tmp 148) = .bool false := s148
            refine q_take rfl rfl s148 rfl ?_
            refine g_field (r := 4) rfl (((p64.ne rfl).trans ((p63.ne rfl).trans ((p62.ne rfl).trans ((p61.ne rfl).trans ((p60.ne rfl).trans ((p59.ne rfl).trans ((p58.ne rfl).trans ((p57.ne rfl).trans ((p56.ne rfl).trans ((p55.ne rfl).trans ((p54.ne rfl).trans ((p53.ne rfl).trans ((p52.ne rfl).trans (p51.ne rfl)))))))))))))).trans s18) Try.underlying42 rfl (fun w => Try.sizeOf3 w) rfl rfl ?_
            intro a65 p65
            have s149 : a65.eval (.tmp 149) = .pointer (some ⟨q130, 4, none⟩) := p65.at hs (by decide)
            replace hs := p65.st hs
            refine q_take rfl rfl ((p65.ne rfl).trans s148) rfl ?_
            refine g_load rfl s149 Try.isAgg3 (box_cell h_q130 rfl) ?_
            intro a66 p66
            have s150 : a66.eval (.tmp 150) = .int .i64 ((pushUs newU (keptF (tOf bs) (os ++ I39) 0 0 N)).lost) := p66.at hs (by decide)
            replace hs := p66.st hs
            refine q_take rfl rfl (((p66.ne rfl).trans (p65.ne rfl)).trans s148) rfl ?_
            refine g_eql rfl s150 rfl ?_
            intro a67 p67
            have s151 : a67.eval (.tmp 151) = .bool true := (p67.at hs (by decide)).trans (congrArg Value.bool (decide_eq_true (hl3.resolve_left (fun ⟨j, h8, h9⟩ => by have := keptF_lt (tOf bs) (os ++ I39) 0 N 0 ⟨j, by omega, by omega, h9⟩; omega))))
            replace hs := p67.st hs
            refine q_take rfl rfl (((p67.ne rfl).trans ((p66.ne rfl).trans ((p65.ne rfl).trans ((p64.ne rfl).trans ((p63.ne rfl).trans ((p62.ne rfl).trans ((p61.ne rfl).trans ((p60.ne rfl).trans (p59.ne rfl))))))))).trans s142) rfl ?_
            refine g_pick_f rfl (((p67.ne rfl).trans ((p66.ne rfl).trans (p65.ne rfl))).trans s148) s151 ?_
            intro a68 p68
            have s152 : a68.eval (.tmp 152) = .bool true := p68.at hs (by decide)
            replace hs := p68.st hs
            refine q_val rfl rfl ?_
            refine g_pick_t rfl (((p68.ne rfl).trans ((p67.ne rfl).trans ((p66.ne rfl).trans ((p65.ne rfl).trans ((p64.ne rfl).trans ((p63.ne rfl).trans ((p62.ne rfl).trans ((p61.ne rfl).trans ((p60.ne rfl).trans (p59.ne rfl)))))))))).trans s142) s152 ?_
            intro a69 p69
            have s153 : a69.eval (.tmp 153) = .bool true := p69.at hs (by decide)
            replace hs := p69.st hs
            refine q_val rfl rfl ?_
            refine g_assign rfl s153 ?_
            intro a70 p70
            have s2 : a70.eval (.tmp 2) = .bool true := p70.at hs (by decide)
            replace hs := p70.st hs
            refine wpList_nil ?_
            refine hK133 _ _ ?_
            clear hK133
            refine wp_ret ?_
            try dsimp only [Exit.then, Exit.inBlock]
            refine ret1 hs Try.results3 (res_tmp s2) ?_
            exact ⟨rfl, hB⟩

/-! ### The row's step, written by a program of ours (frame.py) -/
namespace fnFramesLostDone
open Go.ChangeShapes Go.WideShapes Go.ChangeAt
open Go.ChangeMaps (open_string)
theorem own : ownKnob Try.prog.godebug = none := by kernel_rfl
theorem laidOut : laidOutB Try.prog = true := by kernel_rfl
set_option maxRecDepth 100000 in
theorem lifted (os : Os) (started : os.Started) (H : Type) (enc : TypeId × Value → H) :
    ReturnsInHanded {} Try.checked os 3 .any (Rows.fnFramesLostSpec.pre6 enc Try.prog Try.f3 Rows.fnFramesLostRow.domain false) (Rows.fnFramesLostSpec.post enc Try.prog Try.f3 false true false false) := by
  refine returnsInHanded_of_change (C := Try.checked) own started (by kernel_rfl) Try.func3
    (ChangeSpec.witness6 (enc := enc) (C := Try.checked) false ⟨#[], #[.slice none 0 0], []⟩ 8 (by kernel_rfl) (by kernel_rfl) (by kernel_rfl) (by kernel_rfl)) ?_
  intro W base args ds gs before hval0 hW hcnd _
  have hval : ∀ (j : Nat) t v, Try.f3.params[j]? = some t → args[j]? = some v → Value.okWide Try.prog W .any base t v := hval0
  have hW' := hW
  obtain ⟨p, q, hA0, hV, rfl, hfz, hnd⟩ := hW
  have hA : DataW.TrodAll enc Try.prog W 0 (fun _ => true) true Try.f3.params.toList args.toList ds p := hA0
  rw [Try.params3] at hA hval
  obtain ⟨v0, vs0, d0, ds0, p0, q0, hargs, rfl, rfl, h0, r0⟩ := trodAll_cons hA
  obtain ⟨rfl, rfl, rfl⟩ := trodAll_nil r0
  obtain rfl : args = #[v0] := by cases args; simp_all
  obtain ⟨rfl, rfl⟩ := trodVars_none hV
  have k0 := h0
  have lt0 : ∀ x ∈ p0, x.block < W.heap.size := by obtain ⟨m, hm⟩ := k0; exact DataW.trod_lt m _ _ _ hm
  obtain ⟨A0, n0, c0, rs0, hv0, hlen0, hnc0, hcm0, hrd0, _⟩ := open_slice_of cB (fun _ => True) 1 cB_len Try.underlying22 (by kernel_rfl) (by decide) (fun _ _ _ hh => el_byte Try.underlying5 hh) h0.choose_spec
  obtain ⟨_, _, _, rfl⟩ := okWide_slice Try.underlying22 (hval 0 22 v0 rfl rfl)
  simp only [Value.cells, List.cons.injEq, Value.slice.injEq, and_true] at hv0
  obtain ⟨rfl, rfl, rfl⟩ := hv0
  clear hA0 hval0
  refine (fnFramesLost_walk (w := W) _ _ _ rs0 hlen0 hnc0 hcm0 hrd0).mono fun e W' ⟨he, bel⟩ => ?_
  subst he
  exact ⟨_, rfl, _, _, _, [], _, [], hW', trodAll_mk1 (shut_bool Try.underlying4 _), (trodAll_cons_mk (Below.trod laidOut (by kernel_rfl) (of_decide_eq_true (by kernel_rfl)) k0 bel lt0) trodAll_mk0), rfl, bel.frame _, fun h => by cases h⟩
theorem proved : Rows.FnFramesLostSaid :=
  OpenClaim.holds_of_wide 3 Try.f3 rfl rfl rfl rfl rfl rfl rfl ⟨rfl, rfl, rfl, rfl, rfl⟩ rfl rfl rfl rfl rfl (by kernel_rfl) Try.func3 (by kernel_rfl)
    (of_decide_eq_true (by kernel_rfl)) (by unfold Func.isWrapper; first | (rw [if_pos (by decide +kernel)]; kernel_rfl) | (rw [if_neg (by decide +kernel)]; exact ⟨rfl, rfl⟩))
    (fun os started H enc _ => lifted os started H enc)
end fnFramesLostDone
end Go.Proofs.Ytmcgmiapbdoocaa
