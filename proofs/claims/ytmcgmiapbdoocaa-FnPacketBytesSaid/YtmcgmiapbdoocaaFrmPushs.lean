/- Contract: frames are pushed into an unpacker, one after the other. No condition. -/
import Derived.Test.YtmcgmiapbdoocaaFrmPushW
namespace Go.Proofs.Ytmcgmiapbdoocaa
open Go.RowKit

theorem decs_len4 : ∀ (n : Nat) (r : List UInt8), r.length ≤ n → 4 * (decs r).1.length ≤ r.length
  | 0, r, h => by
    have : r = [] := List.eq_nil_of_length_eq_zero (by omega)
    subst this
    rw [decs_none dec0_nil.1]
    simp
  | n + 1, r, h => by
    cases hd : dec0 r with
    | none => rw [decs_none hd]; simp
    | some x =>
      have hl := dec0_len hd
      have := decs_len4 n (r.drop (4 + x.f2.length)) (by rw [List.length_drop]; omega)
      rw [decs_some hd]
      rw [List.length_drop] at this
      simp only [List.length_cons]
      omega
theorem pushL_len {u : EUnp} {x : EFrame} (hu : unpOk u = true) (hf : frOk x = true) : (pushL u x).length ≤ 20 := by
  have h1 := (unpOk_parts hu).2.2.2.2
  have h2 := (frOk_parts hf).2.2.2
  have h3 : (restU (lostU u x) x).length ≤ 67 := by
    have h4 : (lostU u x).rest.length ≤ 43 := by
      unfold lostU
      split
      · simp [loseU]
      · exact h1
    unfold restU
    split
    · rw [List.length_append]; omega
    · split
      · omega
      · rw [List.length_drop]; omega
  have h5 := decs_len4 _ (restU (lostU u x) x) (Nat.le_refl _)
  have h6 := notIdle_len (decs (restU (lostU u x) x)).1
  unfold pushL
  omega
theorem pushUs_snoc : ∀ (l : List EFrame) (u : EUnp) (f : EFrame), pushUs u (l ++ [f]) = pushU (pushUs u l) f
  | [], _, _ => rfl
  | g :: l, u, f => pushUs_snoc l (pushU u g) f
theorem pushLs_snoc : ∀ (l : List EFrame) (u : EUnp) (f : EFrame), pushLs u (l ++ [f]) = pushLs u l ++ pushL (pushUs u l) f
  | [], u, f => by simp [pushLs, pushUs]
  | g :: l, u, f => by
    show pushL u g ++ pushLs (pushU u g) (l ++ [f]) = (pushL u g ++ pushLs (pushU u g) l) ++ pushL (pushUs (pushU u g) l) f
    rw [pushLs_snoc l (pushU u g) f, List.append_assoc]
theorem PushOk.at : ∀ {l : List EFrame} {u : EUnp} {k : Nat} (_ : PushOk u l) (hk : k < l.length), unpOk (pushUs u (l.take k)) = true ∧ frOk l[k] = true ∧ (pushUs u (l.take k)).ch = l[k].f0
  | f :: l, u, 0, h, _ => ⟨h.1, h.2.1, h.2.2.1⟩
  | f :: l, u, k + 1, h, hk => PushOk.at (l := l) (u := pushU u f) (k := k) h.2.2.2 (by simp only [List.length_cons] at hk; omega)
/-- What holds ahead of the k-th frame. -/
structure PsI (u : EUnp) (fs : List EFrame) (k : Nat) (v : EUnp) (ls : List EPacket) : Prop where
  le : k ≤ fs.length
  eu : v = pushUs u (fs.take k)
  el : ls = pushLs u (fs.take k)
  n : ls.length ≤ 20 * k
theorem PsI.zero (u : EUnp) (fs : List EFrame) : PsI u fs 0 u [] := ⟨Nat.zero_le _, rfl, rfl, Nat.zero_le _⟩
theorem PsI.next {u v : EUnp} {fs : List EFrame} {k : Nat} {ls : List EPacket} (hP : PushOk u fs) (h : PsI u fs k v ls) (hk : k < fs.length) : PsI u fs (k + 1) (pushU v fs[k]) (ls ++ pushL v fs[k]) := by
  obtain ⟨h1, h2, h3⟩ := hP.at hk
  have h4 := h.n
  refine ⟨hk, ?_, ?_, ?_⟩
  · rw [List.take_succ_eq_append_getElem hk, pushUs_snoc, ← h.eu]
  · rw [List.take_succ_eq_append_getElem hk, pushLs_snoc, ← h.eu, ← h.el]
  · have := pushL_len (by rw [← h.eu] at h1; exact h1) h2
    rw [List.length_append]
    omega
theorem PsI.end {u v : EUnp} {fs : List EFrame} {k : Nat} {ls : List EPacket} (h : PsI u fs k v ls) (hk : fs.length ≤ k) : v = pushUs u fs ∧ ls = pushLs u fs := by
  have := h.eu
  have := h.el
  rw [List.take_of_length_le hk] at *
  exact ⟨‹_›, ‹_›⟩
set_option maxRecDepth 100000 in
set_option maxHeartbeats 4000000 in
theorem pushFrames_any {u : EUnp} (A : Option Addr) (n c : Nat) (fs : List EFrame) (w : World) (hP : PushOk u fs) (hn : fs.length = n) (hn' : n ≤ 1048576) (hr_f : Rd w 4 A n (fs.flatMap cFrame)) :
    Calls Try.prog 13 #[.agg #[.int .i64 u.ch, .int .i64 u.nx, .bool u.sy, .string ⟨(u.rest).toArray⟩, .int .i64 u.lost], .slice A n c] w fun e w' => ∃ (L : Option Addr) (c : Nat), e = .returned (.tuple #[.agg #[.int .i64 (pushUs u fs).ch, .int .i64 (pushUs u fs).nx, .bool (pushUs u fs).sy, .string ⟨((pushUs u fs).rest).toArray⟩, .int .i64 (pushUs u fs).lost], .slice L (pushLs u fs).length c]) ∧ w'.ownsRow w.heap.size 32 3 (.slice L (pushLs u fs).length c) (pushLs u fs).length ((pushLs u fs).flatMap cPacket) ∧ Below w.heap.size w w' := by
  refine enter 30 Try.func13 rfl rfl (Nat.le_of_ble_eq_true rfl) ?_
  intro a0 hs hargs
  have s0 : a0.eval (.tmp 0) = .agg #[.int .i64 u.ch, .int .i64 u.nx, .bool u.sy, .string ⟨(u.rest).toArray⟩, .int .i64 u.lost] := hargs 0 _ rfl
  have s1 : a0.eval (.tmp 1) = .slice A n c := hargs 1 _ rfl
  clear hargs
  have hB : Below w.heap.size w w := Below.refl _ _
  refine wp_seq_k fun K1 hK1 => ?_
  refine wp_region_lit ?_
  refine q_val rfl rfl ?_
  refine g_box rfl s0 rfl ?_
  intro q2 w3 N_q2
  have g_q2 : GeB w.heap.size q2 := ⟨Nat.le_trans hB.size N_q2.lo⟩
  replace hB := below_new hB hB.size N_q2
  have h_q2 := N_q2.here
  clear N_q2
  intro a1 p1
  have s2 : a1.eval (.tmp 2) = .pointer (some ⟨q2, 0, none⟩) := p1.at hs (by decide)
  replace hs := p1.st hs
  refine q_val rfl rfl ?_
  refine g_alloc rfl Try.zeroValue42 rfl ?_
  intro q4 w5 N_q4
  have n_q2_q4 := N_q4.ne ⟨lt_of_block h_q2⟩
  have n_q4_q2 := n_q2_q4.symm
  have g_q4 : GeB w.heap.size q4 := ⟨Nat.le_trans hB.size N_q4.lo⟩
  replace h_q2 := keep_below h_q2 N_q4.below
  replace hB := below_new hB hB.size N_q4
  have h_q4 := N_q4.here
  clear N_q4
  intro a2 p2
  have s4 : a2.eval (.tmp 4) = .pointer (some ⟨q4, 0, none⟩) := p2.at hs (by decide)
  replace hs := p2.st hs
  refine q_val rfl rfl ?_
  refine g_assign rfl rfl ?_
  intro a3 p3
  have s5 : a3.eval (.tmp 5) = .slice none 0 0 := p3.at hs (by decide)
  replace hs := p3.st hs
  refine wpList_nil ?_
  replace s1 : a3.eval (.tmp 1) = .slice A n c := ((p3.ne rfl).trans ((p2.ne rfl).trans (p1.ne rfl))).trans s1
  replace s2 : a3.eval (.tmp 2) = .pointer (some ⟨q2, 0, none⟩) := ((p3.ne rfl).trans (p2.ne rfl)).trans s2
  replace s4 : a3.eval (.tmp 4) = .pointer (some ⟨q4, 0, none⟩) := (p3.ne rfl).trans s4
  refine hK1 _ _ ?_
  clear hK1
  refine wp_seq_k fun K6 hK6 => ?_
  refine wp_region_lit ?_
  refine q_val rfl rfl ?_
  refine g_assign rfl rfl ?_
  intro a4 p4
  have s6 : a4.eval (.tmp 6) = .slice none 0 0 := p4.at hs (by decide)
  replace hs := p4.st hs
  refine wpList_nil ?_
  replace s1 : a4.eval (.tmp 1) = .slice A n c := (p4.ne rfl).trans s1
  replace s2 : a4.eval (.tmp 2) = .pointer (some ⟨q2, 0, none⟩) := (p4.ne rfl).trans s2
  replace s4 : a4.eval (.tmp 4) = .pointer (some ⟨q4, 0, none⟩) := (p4.ne rfl).trans s4
  replace s5 : a4.eval (.tmp 5) = .slice none 0 0 := (p4.ne rfl).trans s5
  refine hK6 _ _ ?_
  clear hK6
  refine wp_seq_k fun K7 hK7 => ?_
  refine wp_seq_k fun K8 hK8 => ?_
  refine wp_region_lit ?_
  refine q_val rfl rfl ?_
  refine g_move rfl s1 ?_
  intro a5 p5
  have s11 : a5.eval (.tmp 11) = .slice A n c := p5.at hs (by decide)
  replace hs := p5.st hs
  refine q_val rfl rfl ?_
  refine g_len (e := _) rfl Try.underlying33 s11 ?_
  intro a6 p6
  have s12 : a6.eval (.tmp 12) = .int .i64 ((n : Nat) : Int) := p6.at hs (by decide)
  replace hs := p6.st hs
  refine q_val rfl rfl ?_
  refine g_move rfl rfl ?_
  intro a7 p7
  have s13 : a7.eval (.tmp 13) = .int .i64 0 := p7.at hs (by decide)
  replace hs := p7.st hs
  refine wpList_nil ?_
  replace s2 : a7.eval (.tmp 2) = .pointer (some ⟨q2, 0, none⟩) := ((p7.ne rfl).trans ((p6.ne rfl).trans (p5.ne rfl))).trans s2
  replace s4 : a7.eval (.tmp 4) = .pointer (some ⟨q4, 0, none⟩) := ((p7.ne rfl).trans ((p6.ne rfl).trans (p5.ne rfl))).trans s4
  replace s5 : a7.eval (.tmp 5) = .slice none 0 0 := ((p7.ne rfl).trans ((p6.ne rfl).trans (p5.ne rfl))).trans s5
  replace s6 : a7.eval (.tmp 6) = .slice none 0 0 := ((p7.ne rfl).trans ((p6.ne rfl).trans (p5.ne rfl))).trans s6
  replace s11 : a7.eval (.tmp 11) = .slice A n c := ((p7.ne rfl).trans (p6.ne rfl)).trans s11
  replace s12 : a7.eval (.tmp 12) = .int .i64 ((n : Nat) : Int) := (p7.ne rfl).trans s12
  refine hK8 _ _ ?_
  clear hK8
  refine wp_block ?_
  have o_l : w5.ownsRow w.heap.size 32 3 (.slice none 0 0) 0 ([].flatMap cPacket) := World.ownsRow_nil _ _ _ _
  have g_l : ∀ b, (none : Option Addr).map (·.block) = some b → w.heap.size ≤ b := fun b h => by cases h
  have d_l_q2 : (none : Option Addr).map (·.block) ≠ some q2 := fun h => by cases h
  have d_l_q4 : (none : Option Addr).map (·.block) ≠ some q4 := fun h => by cases h
  refine wp_loop (fun a wr => ∃ (k : Nat) (v : EUnp) (ls : List EPacket) (nl : Nat) (L : Option Addr) (cl : Nat), (St 30 a) ∧ (a.eval (.tmp 2) = .pointer (some ⟨q2, 0, none⟩)) ∧ (a.eval (.tmp 4) = .pointer (some ⟨q4, 0, none⟩)) ∧ (a.eval (.tmp 5) = .slice none 0 0) ∧ (a.eval (.tmp 6) = .slice L nl cl) ∧ (a.eval (.tmp 11) = .slice A n c) ∧ (a.eval (.tmp 12) = .int .i64 ((n : Nat) : Int)) ∧ (a.eval (.tmp 13) = .int .i64 ((k : Nat) : Int)) ∧ (Below w.heap.size w wr) ∧ (wr.heap[q2]? = some (.cells #[.int .i64 v.ch, .int .i64 v.nx, .bool v.sy, .string ⟨(v.rest).toArray⟩, .int .i64 v.lost] 42 (0, 0))) ∧ (wr.heap[q4]? = some (.cells #[.int .i64 0, .int .i64 0, .bool false, .string ⟨#[]⟩, .int .i64 0] 42 (0, 0))) ∧ (wr.ownsRow w.heap.size 32 3 (.slice L nl cl) nl (ls.flatMap cPacket)) ∧ ((L : Option Addr).map (·.block) ≠ some q2) ∧ ((L : Option Addr).map (·.block) ≠ some q4) ∧ (∀ b, (L : Option Addr).map (·.block) = some b → w.heap.size ≤ b) ∧ (PsI u fs k v ls) ∧ (ls.length = nl)) (fun a _ => n - (intOf (a.eval (.tmp 13))).toNat) (⟨0, u, [], 0, none, 0, hs, s2, s4, s5, s6, s11, s12, s13, hB, h_q2, h_q4, o_l, d_l_q2, d_l_q4, g_l, PsI.zero u fs, rfl⟩) ?_
  intro a8 w10 hI
  obtain ⟨k, v, ls, nl, L, cl, hs, s2, s4, s5, s6, s11, s12, s13, hB, h_q2, h_q4, o_l, d_l_q2, d_l_q4, g_l, hI, hnl⟩ := hI
  have mu11 := s13
  have hIl := hI.le
  have hIn := hI.n
  refine wp_seq_k fun K12 hK12 => ?_
  refine wp_region_lit ?_
  refine q_val rfl rfl ?_
  refine g_lss rfl s13 s12 ?_
  intro a9 p9
  have s14 : a9.eval (.tmp 14) = .bool (decide (((k : Nat) : Int) < ((n : Nat) : Int))) := p9.at hs (by decide)
  replace hs := p9.st hs
  refine wpList_nil ?_
  replace s2 : a9.eval (.tmp 2) = .pointer (some ⟨q2, 0, none⟩) := (p9.ne rfl).trans s2
  replace s4 : a9.eval (.tmp 4) = .pointer (some ⟨q4, 0, none⟩) := (p9.ne rfl).trans s4
  replace s5 : a9.eval (.tmp 5) = .slice none 0 0 := (p9.ne rfl).trans s5
  replace s6 : a9.eval (.tmp 6) = .slice L nl cl := (p9.ne rfl).trans s6
  replace s11 : a9.eval (.tmp 11) = .slice A n c := (p9.ne rfl).trans s11
  replace s12 : a9.eval (.tmp 12) = .int .i64 ((n : Nat) : Int) := (p9.ne rfl).trans s12
  replace s13 : a9.eval (.tmp 13) = .int .i64 ((k : Nat) : Int) := (p9.ne rfl).trans s13
  refine hK12 _ _ ?_
  clear hK12
  refine wp_seq_k fun K13 hK13 => ?_
  by_cases hc14 : ((k : Nat) : Int) < ((n : Nat) : Int)
  · replace s14 := s14.trans (congrArg Value.bool (decide_eq_true hc14))
    replace s14 : a9.eval (.tmp 14) = .bool true := s14
    refine c_true s14 ?_
    refine wp_skip ?_
    refine hK13 _ _ ?_
    clear hK13
    refine wp_seq_k fun K15 hK15 => ?_
    refine wp_block ?_
    refine wp_seq_k fun K16 hK16 => ?_
    have hlt : k < fs.length := by omega
    obtain ⟨hpo1, hpo2, hpo3⟩ := hP.at hlt
    rw [← hI.eu] at hpo1 hpo3
    have hpl := pushL_len hpo1 hpo2
    refine wp_region_lit ?_
    obtain ⟨b17, o18, hA19, hl_hc20, hc20⟩ := Rd.get cFrame_len (hr_f.below hB) (Eq.symm hn) (i := k) (by omega)
    refine q_val rfl rfl ?_
    refine g_index (r := o18 + k * 4) (k := k) rfl (s11.trans (slice_at hA19)) s13 Try.underlying33 (fun w => Try.sizeOf40 w) (by omega) rfl ?_
    intro a10 p10
    have s15 : a10.eval (.tmp 15) = .pointer (some ⟨b17, o18 + k * 4, none⟩) := p10.at hs (by decide)
    replace hs := p10.st hs
    refine q_val rfl rfl ?_
    refine g_loadA (l := cFrame fs[k]) rfl s15 Try.isAgg40 Try.sizeOf40 rfl (fun j u hu => by rw [Nat.add_assoc]; exact hc20 j u (by have := (List.getElem?_eq_some_iff.1 hu).1; exact this) hu) ?_
    intro a11 p11
    have s16 : a11.eval (.tmp 16) = .agg #[.int .i64 (fs[k].f0), .int .i64 (fs[k].f1), .int .i64 (fs[k].f2), .string ⟨(fs[k].f3).toArray⟩] := p11.at hs (by decide)
    replace hs := p11.st hs
    refine q_val rfl rfl ?_
    refine g_alloc rfl Try.zeroValue40 rfl ?_
    intro q21 w22 N_q21
    have n_q2_q21 := N_q21.ne ⟨lt_of_block h_q2⟩
    have n_q21_q2 := n_q2_q21.symm
    have n_q4_q21 := N_q21.ne ⟨lt_of_block h_q4⟩
    have n_q21_q4 := n_q4_q21.symm
    have d_l_q21 := own_ne_new o_l N_q21
    have g_q21 : GeB w.heap.size q21 := ⟨Nat.le_trans hB.size N_q21.lo⟩
    replace h_q2 := keep_below h_q2 N_q21.below
    replace h_q4 := keep_below h_q4 N_q21.below
    replace o_l := own_below o_l N_q21.below
    replace hB := below_new hB hB.size N_q21
    have h_q21 := N_q21.here
    clear N_q21
    intro a12 p12
    have s8 : a12.eval (.tmp 8) = .pointer (some ⟨q21, 0, none⟩) := p12.at hs (by decide)
    replace hs := p12.st hs
    refine q_eff rfl rfl ?_
    refine g_storeB rfl s8 ((p12.ne rfl).trans s16) Try.sizeOf40 rfl rfl h_q21 rfl ?_
    intro w23 W_w23
    replace h_q2 := keep_wrote h_q2 W_w23 n_q21_q2
    replace h_q4 := keep_wrote h_q4 W_w23 n_q21_q4
    replace h_q21 := W_w23.here
    replace o_l := own_wrote o_l W_w23 d_l_q21
    replace hB := below_wrote hB hB.size W_w23 g_q21.le
    clear W_w23
    refine wpList_nil ?_
    replace s2 : a12.eval (.tmp 2) = .pointer (some ⟨q2, 0, none⟩) := ((p12.ne rfl).trans ((p11.ne rfl).trans (p10.ne rfl))).trans s2
    replace s4 : a12.eval (.tmp 4) = .pointer (some ⟨q4, 0, none⟩) := ((p12.ne rfl).trans ((p11.ne rfl).trans (p10.ne rfl))).trans s4
    replace s5 : a12.eval (.tmp 5) = .slice none 0 0 := ((p12.ne rfl).trans ((p11.ne rfl).trans (p10.ne rfl))).trans s5
    replace s6 : a12.eval (.tmp 6) = .slice L nl cl := ((p12.ne rfl).trans ((p11.ne rfl).trans (p10.ne rfl))).trans s6
    replace s11 : a12.eval (.tmp 11) = .slice A n c := ((p12.ne rfl).trans ((p11.ne rfl).trans (p10.ne rfl))).trans s11
    replace s12 : a12.eval (.tmp 12) = .int .i64 ((n : Nat) : Int) := ((p12.ne rfl).trans ((p11.ne rfl).trans (p10.ne rfl))).trans s12
    replace s13 : a12.eval (.tmp 13) = .int .i64 ((k : Nat) : Int) := ((p12.ne rfl).trans ((p11.ne rfl).trans (p10.ne rfl))).trans s13
    replace s14 : a12.eval (.tmp 14) = .bool true := ((p12.ne rfl).trans ((p11.ne rfl).trans (p10.ne rfl))).trans s14
    refine hK16 _ _ ?_
    clear hK16
    refine wp_seq_k fun K24 hK24 => ?_
    refine wp_region_lit ?_
    refine q_val rfl rfl ?_
    refine g_loadB rfl s2 Try.isAgg42 Try.sizeOf42 rfl h_q2 ?_
    intro a13 p13
    have s18 : a13.eval (.tmp 18) = .agg #[.int .i64 v.ch, .int .i64 v.nx, .bool v.sy, .string ⟨(v.rest).toArray⟩, .int .i64 v.lost] := p13.at hs (by decide)
    replace hs := p13.st hs
    refine q_val rfl rfl ?_
    refine g_loadB rfl ((p13.ne rfl).trans s8) Try.isAgg40 Try.sizeOf40 rfl h_q21 ?_
    intro a14 p14
    have s19 : a14.eval (.tmp 19) = .agg #[.int .i64 (fs[k].f0), .int .i64 (fs[k].f1), .int .i64 (fs[k].f2), .string ⟨(fs[k].f3).toArray⟩] := p14.at hs (by decide)
    replace hs := p14.st hs
    refine q_val rfl rfl ?_
    refine g_call rfl rfl Try.call37 (arr2 ((p14.ne rfl).trans s18) s19) ?_
    refine (pushFrame_any (u := v) (x := fs[k]) _ hpo1 hpo2 hpo3).mono ?_
    rintro e w27 ⟨A26, c26, rfl, o_x26, hb25⟩
    refine ⟨_, rfl, ?_⟩
    have d_x26_q2 := own_ne_box o_x26 (lt_of_block h_q2)
    have d_x26_q4 := own_ne_box o_x26 (lt_of_block h_q4)
    have d_x26_q21 := own_ne_box o_x26 (lt_of_block h_q21)
    have m_l_x26 := own_ne_row o_l o_x26 (Nat.le_refl _)
    have m_x26_l := ne_row_symm m_l_x26
    have g_x26 : ∀ b, (A26 : Option Addr).map (·.block) = some b → w.heap.size ≤ b := fun b h => Nat.le_trans hB.size (own_row o_x26 b h).1
    replace o_x26 := own_base (base := w.heap.size) o_x26 hB.size
    replace h_q2 := keep_below h_q2 hb25
    replace h_q4 := keep_below h_q4 hb25
    replace h_q21 := keep_below h_q21 hb25
    replace o_l := own_below o_l hb25
    replace hB := hB.trans (hb25.mono hB.size)
    clear hb25
    intro a15 p15
    have s20 : a15.eval (.tmp 20) = .tuple #[.agg #[.int .i64 ((pushU v fs[k]).ch), .int .i64 ((pushU v fs[k]).nx), .bool ((pushU v fs[k]).sy), .string ⟨((pushU v fs[k]).rest).toArray⟩, .int .i64 ((pushU v fs[k]).lost)], .slice A26 ((pushL v fs[k]).length) c26] := p15.at hs (by decide)
    replace hs := p15.st hs
    refine q_val rfl rfl ?_
    refine g_move rfl s20 ?_
    intro a16 p16
    have s17 : a16.eval (.tmp 17) = .tuple #[.agg #[.int .i64 ((pushU v fs[k]).ch), .int .i64 ((pushU v fs[k]).nx), .bool ((pushU v fs[k]).sy), .string ⟨((pushU v fs[k]).rest).toArray⟩, .int .i64 ((pushU v fs[k]).lost)], .slice A26 ((pushL v fs[k]).length) c26] := p16.at hs (by decide)
    replace hs := p16.st hs
    refine q_val rfl rfl ?_
    refine g_extract rfl s17 rfl ?_
    intro a17 p17
    have s21 : a17.eval (.tmp 21) = .agg #[.int .i64 ((pushU v fs[k]).ch), .int .i64 ((pushU v fs[k]).nx), .bool ((pushU v fs[k]).sy), .string ⟨((pushU v fs[k]).rest).toArray⟩, .int .i64 ((pushU v fs[k]).lost)] := p17.at hs (by decide)
    replace hs := p17.st hs
    refine q_val rfl rfl ?_
    refine g_extract rfl ((p17.ne rfl).trans s17) rfl ?_
    intro a18 p18
    have s22 : a18.eval (.tmp 22) = .slice A26 ((pushL v fs[k]).length) c26 := p18.at hs (by decide)
    replace hs := p18.st hs
    refine q_val rfl rfl ?_
    refine g_alloc rfl Try.zeroValue42 rfl ?_
    intro q28 w29 N_q28
    have n_q2_q28 := N_q28.ne ⟨lt_of_block h_q2⟩
    have n_q28_q2 := n_q2_q28.symm
    have n_q4_q28 := N_q28.ne ⟨lt_of_block h_q4⟩
    have n_q28_q4 := n_q4_q28.symm
    have n_q21_q28 := N_q28.ne ⟨lt_of_block h_q21⟩
    have n_q28_q21 := n_q21_q28.symm
    have d_l_q28 := own_ne_new o_l N_q28
    have d_x26_q28 := own_ne_new o_x26 N_q28
    have g_q28 : GeB w.heap.size q28 := ⟨Nat.le_trans hB.size N_q28.lo⟩
    replace h_q2 := keep_below h_q2 N_q28.below
    replace h_q4 := keep_below h_q4 N_q28.below
    replace h_q21 := keep_below h_q21 N_q28.below
    replace o_l := own_below o_l N_q28.below
    replace o_x26 := own_below o_x26 N_q28.below
    replace hB := below_new hB hB.size N_q28
    have h_q28 := N_q28.here
    clear N_q28
    intro a19 p19
    have s9 : a19.eval (.tmp 9) = .pointer (some ⟨q28, 0, none⟩) := p19.at hs (by decide)
    replace hs := p19.st hs
    refine q_eff rfl rfl ?_
    refine g_storeB rfl s9 (((p19.ne rfl).trans (p18.ne rfl)).trans s21) Try.sizeOf42 rfl rfl h_q28 rfl ?_
    intro w30 W_w30
    replace h_q2 := keep_wrote h_q2 W_w30 n_q28_q2
    replace h_q4 := keep_wrote h_q4 W_w30 n_q28_q4
    replace h_q21 := keep_wrote h_q21 W_w30 n_q28_q21
    replace h_q28 := W_w30.here
    replace o_l := own_wrote o_l W_w30 d_l_q28
    replace o_x26 := own_wrote o_x26 W_w30 d_x26_q28
    replace hB := below_wrote hB hB.size W_w30 g_q28.le
    clear W_w30
    refine q_val rfl rfl ?_
    refine g_assign rfl ((p19.ne rfl).trans s22) ?_
    intro a20 p20
    have s10 : a20.eval (.tmp 10) = .slice A26 ((pushL v fs[k]).length) c26 := p20.at hs (by decide)
    replace hs := p20.st hs
    refine wpList_nil ?_
    replace s2 : a20.eval (.tmp 2) = .pointer (some ⟨q2, 0, none⟩) := ((p20.ne rfl).trans ((p19.ne rfl).trans ((p18.ne rfl).trans ((p17.ne rfl).trans ((p16.ne rfl).trans ((p15.ne rfl).trans ((p14.ne rfl).trans (p13.ne rfl)))))))).trans s2
    replace s4 : a20.eval (.tmp 4) = .pointer (some ⟨q4, 0, none⟩) := ((p20.ne rfl).trans ((p19.ne rfl).trans ((p18.ne rfl).trans ((p17.ne rfl).trans ((p16.ne rfl).trans ((p15.ne rfl).trans ((p14.ne rfl).trans (p13.ne rfl)))))))).trans s4
    replace s5 : a20.eval (.tmp 5) = .slice none 0 0 := ((p20.ne rfl).trans ((p19.ne rfl).trans ((p18.ne rfl).trans ((p17.ne rfl).trans ((p16.ne rfl).trans ((p15.ne rfl).trans ((p14.ne rfl).trans (p13.ne rfl)))))))).trans s5
    replace s6 : a20.eval (.tmp 6) = .slice L nl cl := ((p20.ne rfl).trans ((p19.ne rfl).trans ((p18.ne rfl).trans ((p17.ne rfl).trans ((p16.ne rfl).trans ((p15.ne rfl).trans ((p14.ne rfl).trans (p13.ne rfl)))))))).trans s6
    replace s11 : a20.eval (.tmp 11) = .slice A n c := ((p20.ne rfl).trans ((p19.ne rfl).trans ((p18.ne rfl).trans ((p17.ne rfl).trans ((p16.ne rfl).trans ((p15.ne rfl).trans ((p14.ne rfl).trans (p13.ne rfl)))))))).trans s11
    replace s12 : a20.eval (.tmp 12) = .int .i64 ((n : Nat) : Int) := ((p20.ne rfl).trans ((p19.ne rfl).trans ((p18.ne rfl).trans ((p17.ne rfl).trans ((p16.ne rfl).trans ((p15.ne rfl).trans ((p14.ne rfl).trans (p13.ne rfl)))))))).trans s12
    replace s13 : a20.eval (.tmp 13) = .int .i64 ((k : Nat) : Int) := ((p20.ne rfl).trans ((p19.ne rfl).trans ((p18.ne rfl).trans ((p17.ne rfl).trans ((p16.ne rfl).trans ((p15.ne rfl).trans ((p14.ne rfl).trans (p13.ne rfl)))))))).trans s13
    replace s14 : a20.eval (.tmp 14) = .bool true := ((p20.ne rfl).trans ((p19.ne rfl).trans ((p18.ne rfl).trans ((p17.ne rfl).trans ((p16.ne rfl).trans ((p15.ne rfl).trans ((p14.ne rfl).trans (p13.ne rfl)))))))).trans s14
    replace s8 : a20.eval (.tmp 8) = .pointer (some ⟨q21, 0, none⟩) := ((p20.ne rfl).trans ((p19.ne rfl).trans ((p18.ne rfl).trans ((p17.ne rfl).trans ((p16.ne rfl).trans ((p15.ne rfl).trans ((p14.ne rfl).trans (p13.ne rfl)))))))).trans s8
    replace s9 : a20.eval (.tmp 9) = .pointer (some ⟨q28, 0, none⟩) := (p20.ne rfl).trans s9
    refine hK24 _ _ ?_
    clear hK24
    refine wp_seq_k fun K31 hK31 => ?_
    refine wp_region_lit ?_
    refine q_val rfl rfl ?_
    refine g_loadB rfl s9 Try.isAgg42 Try.sizeOf42 rfl h_q28 ?_
    intro a21 p21
    have s23 : a21.eval (.tmp 23) = .agg #[.int .i64 ((pushU v fs[k]).ch), .int .i64 ((pushU v fs[k]).nx), .bool ((pushU v fs[k]).sy), .string ⟨((pushU v fs[k]).rest).toArray⟩, .int .i64 ((pushU v fs[k]).lost)] := p21.at hs (by decide)
    replace hs := p21.st hs
    refine q_eff rfl rfl ?_
    refine g_storeB rfl ((p21.ne rfl).trans s2) s23 Try.sizeOf42 rfl rfl h_q2 rfl ?_
    intro w32 W_w32
    replace h_q2 := W_w32.here
    replace h_q4 := keep_wrote h_q4 W_w32 n_q2_q4
    replace h_q21 := keep_wrote h_q21 W_w32 n_q2_q21
    replace h_q28 := keep_wrote h_q28 W_w32 n_q2_q28
    replace o_l := own_wrote o_l W_w32 d_l_q2
    replace o_x26 := own_wrote o_x26 W_w32 d_x26_q2
    replace hB := below_wrote hB hB.size W_w32 g_q2.le
    clear W_w32
    refine wpList_nil ?_
    replace s2 : a21.eval (.tmp 2) = .pointer (some ⟨q2, 0, none⟩) := (p21.ne rfl).trans s2
    replace s4 : a21.eval (.tmp 4) = .pointer (some ⟨q4, 0, none⟩) := (p21.ne rfl).trans s4
    replace s5 : a21.eval (.tmp 5) = .slice none 0 0 := (p21.ne rfl).trans s5
    replace s6 : a21.eval (.tmp 6) = .slice L nl cl := (p21.ne rfl).trans s6
    replace s11 : a21.eval (.tmp 11) = .slice A n c := (p21.ne rfl).trans s11
    replace s12 : a21.eval (.tmp 12) = .int .i64 ((n : Nat) : Int) := (p21.ne rfl).trans s12
    replace s13 : a21.eval (.tmp 13) = .int .i64 ((k : Nat) : Int) := (p21.ne rfl).trans s13
    replace s14 : a21.eval (.tmp 14) = .bool true := (p21.ne rfl).trans s14
    replace s8 : a21.eval (.tmp 8) = .pointer (some ⟨q21, 0, none⟩) := (p21.ne rfl).trans s8
    replace s9 : a21.eval (.tmp 9) = .pointer (some ⟨q28, 0, none⟩) := (p21.ne rfl).trans s9
    replace s10 : a21.eval (.tmp 10) = .slice A26 ((pushL v fs[k]).length) c26 := (p21.ne rfl).trans s10
    refine hK31 _ _ ?_
    clear hK31
    refine wp_region_lit ?_
    refine q_val rfl rfl ?_
    refine g_move rfl s6 ?_
    intro a22 p22
    have s24 : a22.eval (.tmp 24) = .slice L nl cl := p22.at hs (by decide)
    replace hs := p22.st hs
    refine q_val rfl rfl ?_
    refine g_move rfl ((p22.ne rfl).trans s10) ?_
    intro a23 p23
    have s25 : a23.eval (.tmp 25) = .slice A26 ((pushL v fs[k]).length) c26 := p23.at hs (by decide)
    replace hs := p23.st hs
    refine q_val rfl rfl ?_
    refine g_append (n' := nl + ((pushL v fs[k]).length)) (ys := (ls ++ (pushL v fs[k])).flatMap cPacket) w.heap.size (.agg #[.int .i64 0, .int .i64 0, .string ⟨#[]⟩]) 3 32 rfl ((p23.ne rfl).trans s24) s25 Try.underlying24 infoPacket rfl (by decide) o_l (own_nil o_x26) (Rd.of_own o_x26) (flatPacket_one _) (by omega) hB.size (by decide) (by omega) (by first | rfl | simp [List.flatMap_append] | (simp [List.flatMap_append, cPacket]; done)) ?_
    intro A_r33 c_r33 w34 P_r33
    have d_r33_q2 := P_r33.ne d_l_q2 (lt_of_block h_q2)
    have d_r33_q4 := P_r33.ne d_l_q4 (lt_of_block h_q4)
    have d_r33_q21 := P_r33.ne d_l_q21 (lt_of_block h_q21)
    have d_r33_q28 := P_r33.ne d_l_q28 (lt_of_block h_q28)
    have m_x26_r33 := P_r33.row m_x26_l o_x26
    have m_r33_x26 := ne_row_symm m_x26_r33
    have g_r33 := P_r33.ge g_l hB.size
    replace h_q2 := keep_grown h_q2 P_r33.grown d_l_q2
    replace h_q4 := keep_grown h_q4 P_r33.grown d_l_q4
    replace h_q21 := keep_grown h_q21 P_r33.grown d_l_q21
    replace h_q28 := keep_grown h_q28 P_r33.grown d_l_q28
    replace o_x26 := own_grown o_x26 P_r33.grown m_x26_l
    replace hB := below_grown hB hB.size P_r33.grown g_l
    have o_r33 := P_r33.own
    clear P_r33
    intro a24 p24
    have s26 : a24.eval (.tmp 26) = .slice A_r33 (nl + ((pushL v fs[k]).length)) c_r33 := p24.at hs (by decide)
    replace hs := p24.st hs
    refine q_val rfl rfl ?_
    refine g_assign rfl s26 ?_
    intro a25 p25
    have s6 : a25.eval (.tmp 6) = .slice A_r33 (nl + ((pushL v fs[k]).length)) c_r33 := p25.at hs (by decide)
    replace hs := p25.st hs
    refine wpList_nil ?_
    replace s2 : a25.eval (.tmp 2) = .pointer (some ⟨q2, 0, none⟩) := ((p25.ne rfl).trans ((p24.ne rfl).trans ((p23.ne rfl).trans (p22.ne rfl)))).trans s2
    replace s4 : a25.eval (.tmp 4) = .pointer (some ⟨q4, 0, none⟩) := ((p25.ne rfl).trans ((p24.ne rfl).trans ((p23.ne rfl).trans (p22.ne rfl)))).trans s4
    replace s5 : a25.eval (.tmp 5) = .slice none 0 0 := ((p25.ne rfl).trans ((p24.ne rfl).trans ((p23.ne rfl).trans (p22.ne rfl)))).trans s5
    replace s11 : a25.eval (.tmp 11) = .slice A n c := ((p25.ne rfl).trans ((p24.ne rfl).trans ((p23.ne rfl).trans (p22.ne rfl)))).trans s11
    replace s12 : a25.eval (.tmp 12) = .int .i64 ((n : Nat) : Int) := ((p25.ne rfl).trans ((p24.ne rfl).trans ((p23.ne rfl).trans (p22.ne rfl)))).trans s12
    replace s13 : a25.eval (.tmp 13) = .int .i64 ((k : Nat) : Int) := ((p25.ne rfl).trans ((p24.ne rfl).trans ((p23.ne rfl).trans (p22.ne rfl)))).trans s13
    replace s14 : a25.eval (.tmp 14) = .bool true := ((p25.ne rfl).trans ((p24.ne rfl).trans ((p23.ne rfl).trans (p22.ne rfl)))).trans s14
    replace s8 : a25.eval (.tmp 8) = .pointer (some ⟨q21, 0, none⟩) := ((p25.ne rfl).trans ((p24.ne rfl).trans ((p23.ne rfl).trans (p22.ne rfl)))).trans s8
    replace s9 : a25.eval (.tmp 9) = .pointer (some ⟨q28, 0, none⟩) := ((p25.ne rfl).trans ((p24.ne rfl).trans ((p23.ne rfl).trans (p22.ne rfl)))).trans s9
    replace s10 : a25.eval (.tmp 10) = .slice A26 ((pushL v fs[k]).length) c26 := ((p25.ne rfl).trans ((p24.ne rfl).trans ((p23.ne rfl).trans (p22.ne rfl)))).trans s10
    refine hK15 _ _ ?_
    clear hK15
    refine wp_region_lit ?_
    refine q_val rfl rfl ?_
    refine g_add (r := ((k + 1 : Nat) : Int)) rfl s13 rfl (by omega) (by omega) ?_
    intro a26 p26
    have s27 : a26.eval (.tmp 27) = .int .i64 ((k + 1 : Nat) : Int) := p26.at hs (by decide)
    replace hs := p26.st hs
    refine q_val rfl rfl ?_
    refine g_move rfl s27 ?_
    intro a27 p27
    have s13 : a27.eval (.tmp 13) = .int .i64 ((k + 1 : Nat) : Int) := p27.at hs (by decide)
    replace hs := p27.st hs
    refine wpList_nil ?_
    replace s2 : a27.eval (.tmp 2) = .pointer (some ⟨q2, 0, none⟩) := ((p27.ne rfl).trans (p26.ne rfl)).trans s2
    replace s4 : a27.eval (.tmp 4) = .pointer (some ⟨q4, 0, none⟩) := ((p27.ne rfl).trans (p26.ne rfl)).trans s4
    replace s5 : a27.eval (.tmp 5) = .slice none 0 0 := ((p27.ne rfl).trans (p26.ne rfl)).trans s5
    replace s6 : a27.eval (.tmp 6) = .slice A_r33 (nl + ((pushL v fs[k]).length)) c_r33 := ((p27.ne rfl).trans (p26.ne rfl)).trans s6
    replace s11 : a27.eval (.tmp 11) = .slice A n c := ((p27.ne rfl).trans (p26.ne rfl)).trans s11
    replace s12 : a27.eval (.tmp 12) = .int .i64 ((n : Nat) : Int) := ((p27.ne rfl).trans (p26.ne rfl)).trans s12
    replace s14 : a27.eval (.tmp 14) = .bool true := ((p27.ne rfl).trans (p26.ne rfl)).trans s14
    replace s8 : a27.eval (.tmp 8) = .pointer (some ⟨q21, 0, none⟩) := ((p27.ne rfl).trans (p26.ne rfl)).trans s8
    replace s9 : a27.eval (.tmp 9) = .pointer (some ⟨q28, 0, none⟩) := ((p27.ne rfl).trans (p26.ne rfl)).trans s9
    replace s10 : a27.eval (.tmp 10) = .slice A26 ((pushL v fs[k]).length) c26 := ((p27.ne rfl).trans (p26.ne rfl)).trans s10
    have o_l := o_r33
    have g_l := g_r33
    have d_l_q2 := d_r33_q2
    have d_l_q4 := d_r33_q4
    refine show _ ∧ _ from ⟨⟨k + 1, pushU v fs[k], ls ++ (pushL v fs[k]), _, _, _, hs, s2, s4, s5, s6, s11, s12, s13, hB, h_q2, h_q4, o_l, d_l_q2, d_l_q4, g_l, hI.next hP hlt, (by rw [List.length_append, hnl])⟩, ?_⟩
    show n - (intOf (a27.eval (.tmp 13))).toNat < n - (intOf (a8.eval (.tmp 13))).toNat
    rw [s13, mu11]
    simp only [intOf]
    omega
  · replace s14 := s14.trans (congrArg Value.bool (decide_eq_false hc14))
    replace s14 : a9.eval (.tmp 14) = .bool false := s14
    refine c_false s14 ?_
    refine wp_exit ?_
    refine hK7 _ _ ?_
    clear hK7
    refine wp_seq_k fun K35 hK35 => ?_
    refine wp_region_lit ?_
    refine q_val rfl rfl ?_
    refine g_loadB rfl s2 Try.isAgg42 Try.sizeOf42 rfl h_q2 ?_
    intro a10 p10
    have s28 : a10.eval (.tmp 28) = .agg #[.int .i64 v.ch, .int .i64 v.nx, .bool v.sy, .string ⟨(v.rest).toArray⟩, .int .i64 v.lost] := p10.at hs (by decide)
    replace hs := p10.st hs
    refine q_val rfl rfl ?_
    refine g_move rfl ((p10.ne rfl).trans s6) ?_
    intro a11 p11
    have s29 : a11.eval (.tmp 29) = .slice L nl cl := p11.at hs (by decide)
    replace hs := p11.st hs
    refine q_eff rfl rfl ?_
    refine g_storeB rfl (((p11.ne rfl).trans (p10.ne rfl)).trans s4) ((p11.ne rfl).trans s28) Try.sizeOf42 rfl rfl h_q4 rfl ?_
    intro w36 W_w36
    replace h_q2 := keep_wrote h_q2 W_w36 n_q4_q2
    replace h_q4 := W_w36.here
    replace o_l := own_wrote o_l W_w36 d_l_q4
    replace hB := below_wrote hB hB.size W_w36 g_q4.le
    clear W_w36
    refine q_val rfl rfl ?_
    refine g_assign rfl s29 ?_
    intro a12 p12
    have s5 : a12.eval (.tmp 5) = .slice L nl cl := p12.at hs (by decide)
    replace hs := p12.st hs
    refine wpList_nil ?_
    replace s4 : a12.eval (.tmp 4) = .pointer (some ⟨q4, 0, none⟩) := ((p12.ne rfl).trans ((p11.ne rfl).trans (p10.ne rfl))).trans s4
    refine hK35 _ _ ?_
    clear hK35
    refine wp_ret ?_
    try dsimp only [Exit.then, Exit.inBlock]
    refine ret2 hs Try.results13 (res_cell s4 h_q4 Try.isAgg42 Try.sizeOf42 rfl) (res_tmp s5) ?_
    subst hnl
    obtain ⟨e1, e2⟩ := hI.end (by omega)
    subst e1 e2
    exact ⟨_, _, rfl, o_l, hB⟩
end Go.Proofs.Ytmcgmiapbdoocaa
