/- Contract: the program's recorder keeps a record. No condition. -/
import Derived.Test.YtnjopeonmenopaaKeepLaw
import Derived.Test.YtnjopeonmenopaaRecDelete
import Derived.Test.YtnjopeonmenopaaRcCopy
namespace Go.Proofs.Ytnjopeonmenopaa
open Go.RowKit

def KRes (base : Nat) (w : World) (room : Int) (p : List ERecord × List Int) (v : Value) : Prop :=
  ∃ (A : Option Addr) (n c : Nat) (B : Option Addr) (m d : Nat), v = .agg #[.int .i64 room, .slice A n c, .slice B m d] ∧ p.1.length = n ∧ p.2.length = m ∧ w.ownsRow base 26 4 (.slice A n c) n (p.1.flatMap cRecord) ∧ w.ownsRow base 3 1 (.slice B m d) m (p.2.flatMap cI)
theorem leastRecord_at {A : Option Addr} {n c k : Nat} {zs : List ERecord} (w : World) (hn : zs.length = n) (hm : n ≤ 1048577) (hk : leastTo zs n = k) (hr : Rd w 4 A n (zs.flatMap cRecord)) :
    Calls Try.prog 60 #[.slice A n c] w fun e w' => e = .returned (.int .i64 ((k : Nat) : Int)) ∧ Below w.heap.size w w' := by
  subst hk
  exact leastRecord_any A n c zs w hn hm hr
theorem recordSize_at {z : ERecord} (w : World) (hd : Txt z.f3) (hs : z.f3.length ≤ 1048576) :
    Calls Try.prog 59 #[.agg #[.int .i64 z.f0, .int .i64 z.f1, .int .i64 z.f2, .string ⟨z.f3.toArray⟩]] w fun e w' => e = .returned (.int .i64 ((recSz z : Nat) : Int)) ∧ Below w.heap.size w w' :=
  (recordSize_any _ _ _ _ w hd hs).mono fun _ _ ⟨he, hb⟩ => ⟨by rw [he]; unfold recSz; simp, hb⟩
theorem roomLeft_at {room : Int} {A B : Option Addr} {n cp m dp : Nat} {zs : List ERecord} {ds : List Int} (w : World) (hok : rcOk room zs ds = true) (hn : zs.length = n) (hb : n ≤ 1048577) (hT : ∀ z ∈ zs, Txt z.f3) (hr : Rd w 4 A n (zs.flatMap cRecord)) (hm : ds.length = m) (hbm : m ≤ 1048577) (hr' : Rd w 1 B m (ds.flatMap cI)) :
    Calls Try.prog 36 #[.agg #[.int .i64 room, .slice A n cp, .slice B m dp]] w fun e w' => e = .returned (.int .i64 (room - ((usedN zs : Nat) : Int))) ∧ Below w.heap.size w w' :=
  (roomLeft_any room A B n cp m dp zs ds w hn hb hT hr hm hbm hr').mono fun _ _ ⟨he, hb⟩ => ⟨by rw [he]; unfold roomLeft; rw [if_pos hok], hb⟩
theorem rec_len {room : Int} {zs : List ERecord} {ds : List Int} (h : rcOk room zs ds = true) : (0 ≤ room ∧ room ≤ 4000) ∧ ds.length ≤ 65536 ∧ zs.length ≤ 700 ∧ (usedN zs : Int) ≤ room := by
  obtain ⟨h1, h2, _, h4, _⟩ := rcOk_parts h
  have := usedN_len zs
  exact ⟨h1, h2, by omega, h4⟩
theorem recSz_pos (z : ERecord) : 6 ≤ recSz z := by unfold recSz; omega
theorem rec_small {room : Int} {zs : List ERecord} {ds : List Int} (h : rcOk room zs ds = true) {z : ERecord} (hz : z ∈ zs) : z.f3.length ≤ 34 := by
  obtain ⟨_, _, h3, _, _⟩ := rcOk_parts h
  obtain ⟨k, hk, rfl⟩ := List.mem_iff_getElem.1 hz
  exact (recOk_parts (recOk_at h3 hk hk)).2.2.2
theorem kOk_last {room : Int} {zs : List ERecord} {ds : List Int} {x : ERecord} (hl : zs.length - 1 < zs.length) (h : x.f0 ≤ zs[zs.length - 1].f0) : kOk room zs ds x = false := by
  have : kLast zs x = false := by
    unfold kLast
    refine decide_eq_false fun h2 => ?_
    have h3 := h2 (by omega)
    have e : zs.getD (zs.length - 1) default = zs[zs.length - 1] := by simp [hl]
    rw [e] at h3
    omega
  unfold kOk
  rw [this, Bool.and_false]
theorem kOk_none {room : Int} {zs : List ERecord} {ds : List Int} {x : ERecord} (hok : rcOk room zs ds = true) (hr : recOk x.f0 x.f1 x.f2 x.f3 = true) (h : ¬ (0 : Int) < ((zs.length : Nat) : Int)) : kOk room zs ds x = true := by
  unfold kOk kLast
  rw [hok, hr, decide_eq_true (fun h2 => by omega)]
  rfl
theorem kOk_behind {room : Int} {zs : List ERecord} {ds : List Int} {x : ERecord} (hok : rcOk room zs ds = true) (hr : recOk x.f0 x.f1 x.f2 x.f3 = true) (hl : zs.length - 1 < zs.length) (h : ¬ x.f0 ≤ zs[zs.length - 1].f0) : kOk room zs ds x = true := by
  unfold kOk kLast
  have e : zs.getD (zs.length - 1) default = zs[zs.length - 1] := by simp [hl]
  rw [hok, hr, decide_eq_true (fun _ => by rw [e]; omega)]
  rfl
set_option maxRecDepth 100000 in
set_option maxHeartbeats 8000000 in
theorem keepRecord_any (room : Int) (A B : Option Addr) (n cp m dp : Nat) (zs : List ERecord) (ds : List Int) (x : ERecord) (w : World) (hn : zs.length = n) (hb : n ≤ 1048576) (_hnc_z : n ≤ cp) (hT : ∀ z ∈ zs, Txt z.f3) (hr_z : Rd w 4 A n (zs.flatMap cRecord)) (hnn_z : A = none → n = 0 ∧ cp = 0) (hm : ds.length = m) (hbm : m ≤ 1048576) (hnn_d : B = none → m = 0 ∧ dp = 0) (hr_d : Rd w 1 B m (ds.flatMap cI)) (hTx : Txt x.f3) :
    Calls Try.prog 34 #[.agg #[.int .i64 room, .slice A n cp, .slice B m dp], .agg #[.int .i64 x.f0, .int .i64 x.f1, .int .i64 x.f2, .string ⟨(x.f3).toArray⟩]] w fun e w' => ∃ v, e = .returned v ∧ KRes w.heap.size w' room (keepR room zs ds x) v ∧ Below w.heap.size w w' := by
  subst hn
  subst hm
  refine enter 120 Try.func34 rfl rfl (Nat.le_of_ble_eq_true rfl) ?_
  intro a0 hs hargs
  have s0 : a0.eval (.tmp 0) = .agg #[.int .i64 room, .slice A zs.length cp, .slice B ds.length dp] := hargs 0 _ rfl
  have s1 : a0.eval (.tmp 1) = .agg #[.int .i64 x.f0, .int .i64 x.f1, .int .i64 x.f2, .string ⟨(x.f3).toArray⟩] := hargs 1 _ rfl
  clear hargs
  have hB : Below w.heap.size w w := Below.refl _ _
  refine wp_seq_k fun K1 hK1 => ?_
  refine wp_region_lit ?_
  refine q_val rfl rfl ?_
  refine g_box rfl s0 rfl ?_
  intro q2 w3 N_q2
  have g_q2 : GeB w.heap.size q2 := ⟨Nat.le_trans hB.size N_q2.lo⟩
  replace hB := below_new hB hB.size N_q2
  have h_q2 := N_q2.here
  clear N_q2
  intro a1 p1
  have s2 : a1.eval (.tmp 2) = .pointer (some ⟨q2, 0, none⟩) := p1.at hs (by decide)
  replace hs := p1.st hs
  refine q_val rfl rfl ?_
  refine g_box rfl ((p1.ne rfl).trans s1) rfl ?_
  intro q4 w5 N_q4
  have n_q2_q4 := N_q4.ne ⟨lt_of_block h_q2⟩
  have n_q4_q2 := n_q2_q4.symm
  have g_q4 : GeB w.heap.size q4 := ⟨Nat.le_trans hB.size N_q4.lo⟩
  replace h_q2 := keep_below h_q2 N_q4.below
  replace hB := below_new hB hB.size N_q4
  have h_q4 := N_q4.here
  clear N_q4
  intro a2 p2
  have s3 : a2.eval (.tmp 3) = .pointer (some ⟨q4, 0, none⟩) := p2.at hs (by decide)
  replace hs := p2.st hs
  refine q_val rfl rfl ?_
  refine g_alloc rfl Try.zeroValue50 rfl ?_
  intro q6 w7 N_q6
  have n_q2_q6 := N_q6.ne ⟨lt_of_block h_q2⟩
  have n_q6_q2 := n_q2_q6.symm
  have n_q4_q6 := N_q6.ne ⟨lt_of_block h_q4⟩
  have n_q6_q4 := n_q4_q6.symm
  have g_q6 : GeB w.heap.size q6 := ⟨Nat.le_trans hB.size N_q6.lo⟩
  replace h_q2 := keep_below h_q2 N_q6.below
  replace h_q4 := keep_below h_q4 N_q6.below
  replace hB := below_new hB hB.size N_q6
  have h_q6 := N_q6.here
  clear N_q6
  intro a3 p3
  have s4 : a3.eval (.tmp 4) = .pointer (some ⟨q6, 0, none⟩) := p3.at hs (by decide)
  replace hs := p3.st hs
  refine wpList_nil ?_
  replace s2 : a3.eval (.tmp 2) = .pointer (some ⟨q2, 0, none⟩) := ((p3.ne rfl).trans (p2.ne rfl)).trans s2
  replace s3 : a3.eval (.tmp 3) = .pointer (some ⟨q4, 0, none⟩) := (p3.ne rfl).trans s3
  refine hK1 _ _ ?_
  clear hK1
  refine wp_seq_k fun K8 hK8 => ?_
  refine wp_region_lit ?_
  refine q_val rfl rfl ?_
  refine g_field (r := 1) rfl s2 Try.underlying50 rfl (fun w => Try.sizeOf47 w) rfl rfl ?_
  intro a4 p4
  have s12 : a4.eval (.tmp 12) = .pointer (some ⟨q2, 1, none⟩) := p4.at hs (by decide)
  replace hs := p4.st hs
  refine q_val rfl rfl ?_
  refine g_load rfl s12 Try.isAgg47 (box_cell h_q2 rfl) ?_
  intro a5 p5
  have s13 : a5.eval (.tmp 13) = .slice A zs.length cp := p5.at hs (by decide)
  replace hs := p5.st hs
  refine q_val rfl rfl ?_
  refine g_len (e := _) rfl Try.underlying47 s13 ?_
  intro a6 p6
  have s14 : a6.eval (.tmp 14) = .int .i64 ((zs.length : Nat) : Int) := p6.at hs (by decide)
  replace hs := p6.st hs
  refine q_val rfl rfl ?_
  refine g_assign rfl s14 ?_
  intro a7 p7
  have s5 : a7.eval (.tmp 5) = .int .i64 ((zs.length : Nat) : Int) := p7.at hs (by decide)
  replace hs := p7.st hs
  refine wpList_nil ?_
  replace s2 : a7.eval (.tmp 2) = .pointer (some ⟨q2, 0, none⟩) := ((p7.ne rfl).trans ((p6.ne rfl).trans ((p5.ne rfl).trans (p4.ne rfl)))).trans s2
  replace s3 : a7.eval (.tmp 3) = .pointer (some ⟨q4, 0, none⟩) := ((p7.ne rfl).trans ((p6.ne rfl).trans ((p5.ne rfl).trans (p4.ne rfl)))).trans s3
  replace s4 : a7.eval (.tmp 4) = .pointer (some ⟨q6, 0, none⟩) := ((p7.ne rfl).trans ((p6.ne rfl).trans ((p5.ne rfl).trans (p4.ne rfl)))).trans s4
  refine hK8 _ _ ?_
  clear hK8
  refine wp_seq_k fun K9 hK9 => ?_
  have jK9 : ∀ (a : Act) (wr : World), (St 120 a) ∧ (a.eval (.tmp 2) = .pointer (some ⟨q2, 0, none⟩)) ∧ (a.eval (.tmp 3) = .pointer (some ⟨q4, 0, none⟩)) ∧ (a.eval (.tmp 4) = .pointer (some ⟨q6, 0, none⟩)) ∧ (Below w.heap.size w wr) ∧ (wr.heap[q2]? = some (.cells #[.int .i64 room, .slice A zs.length cp, .slice B ds.length dp] 50 (0, 0))) ∧ (wr.heap[q4]? = some (.cells #[.int .i64 x.f0, .int .i64 x.f1, .int .i64 x.f2, .string ⟨(x.f3).toArray⟩] 26 (0, 0))) ∧ (wr.heap[q6]? = some (.cells #[.int .i64 0, .slice none 0 0, .slice none 0 0] 50 (0, 0))) ∧ (rcOk room zs ds = true) ∧ (recOk x.f0 x.f1 x.f2 x.f3 = true) ∧ (kOk room zs ds x = true) → K9 a wr := by
    rintro a8 w10 ⟨hs, s2, s3, s4, hB, h_q2, h_q4, h_q6, hok, hrok, hkok⟩
    refine hK9 _ _ ?_
    clear hK9
    refine wp_seq_k fun K11 hK11 => ?_
    obtain ⟨hrm, hdl, hzl, hus⟩ := rec_len hok
    have hxl := (recOk_parts hrok).2.2.2
    have hsz := recSz_pos x
    have hszx : recSz x ≤ 40 := by unfold recSz; omega
    refine wp_region_lit ?_
    refine q_val rfl rfl ?_
    refine g_loadB rfl s2 Try.isAgg50 Try.sizeOf50 rfl h_q2 ?_
    intro a9 p9
    have s41 : a9.eval (.tmp 41) = .agg #[.int .i64 room, .slice A zs.length cp, .slice B ds.length dp] := p9.at hs (by decide)
    replace hs := p9.st hs
    refine q_val rfl rfl ?_
    refine g_call rfl rfl Try.call58 (arr1 s41) ?_
    refine (cloneRecorder_any _ _ _ _ _ _ _ zs ds _ rfl (by omega) (hr_z.below hB) rfl (by omega) (hr_d.below hB)).mono ?_
    rintro e w13 ⟨A12, c12, B12, d12, rfl, o_z12, o_y12, hb12⟩
    refine ⟨_, rfl, ?_⟩
    have m_z12_y12 := own_ne_type o_z12 o_y12 (by decide)
    have m_y12_z12 := ne_row_symm m_z12_y12
    have d_z12_q2 := own_ne_box o_z12 (lt_of_block h_q2)
    have d_z12_q4 := own_ne_box o_z12 (lt_of_block h_q4)
    have d_z12_q6 := own_ne_box o_z12 (lt_of_block h_q6)
    have g_z12 : ∀ b, (A12 : Option Addr).map (·.block) = some b → w.heap.size ≤ b := fun b h => Nat.le_trans hB.size (own_row o_z12 b h).1
    replace o_z12 := own_base (base := w.heap.size) o_z12 hB.size
    have d_y12_q2 := own_ne_box o_y12 (lt_of_block h_q2)
    have d_y12_q4 := own_ne_box o_y12 (lt_of_block h_q4)
    have d_y12_q6 := own_ne_box o_y12 (lt_of_block h_q6)
    have g_y12 : ∀ b, (B12 : Option Addr).map (·.block) = some b → w.heap.size ≤ b := fun b h => Nat.le_trans hB.size (own_row o_y12 b h).1
    replace o_y12 := own_base (base := w.heap.size) o_y12 hB.size
    replace h_q2 := keep_below h_q2 hb12
    replace h_q4 := keep_below h_q4 hb12
    replace h_q6 := keep_below h_q6 hb12
    replace hB := hB.trans (hb12.mono hB.size)
    clear hb12
    intro a10 p10
    have s42 : a10.eval (.tmp 42) = .agg #[.int .i64 room, .slice A12 zs.length c12, .slice B12 ds.length d12] := p10.at hs (by decide)
    replace hs := p10.st hs
    refine q_val rfl rfl ?_
    refine g_alloc rfl Try.zeroValue50 rfl ?_
    intro q14 w15 N_q14
    have n_q2_q14 := N_q14.ne ⟨lt_of_block h_q2⟩
    have n_q14_q2 := n_q2_q14.symm
    have n_q4_q14 := N_q14.ne ⟨lt_of_block h_q4⟩
    have n_q14_q4 := n_q4_q14.symm
    have n_q6_q14 := N_q14.ne ⟨lt_of_block h_q6⟩
    have n_q14_q6 := n_q6_q14.symm
    have d_z12_q14 := own_ne_new o_z12 N_q14
    have d_y12_q14 := own_ne_new o_y12 N_q14
    have g_q14 : GeB w.heap.size q14 := ⟨Nat.le_trans hB.size N_q14.lo⟩
    replace h_q2 := keep_below h_q2 N_q14.below
    replace h_q4 := keep_below h_q4 N_q14.below
    replace h_q6 := keep_below h_q6 N_q14.below
    replace o_z12 := own_below o_z12 N_q14.below
    replace o_y12 := own_below o_y12 N_q14.below
    replace hB := below_new hB hB.size N_q14
    have h_q14 := N_q14.here
    clear N_q14
    intro a11 p11
    have s6 : a11.eval (.tmp 6) = .pointer (some ⟨q14, 0, none⟩) := p11.at hs (by decide)
    replace hs := p11.st hs
    refine q_eff rfl rfl ?_
    refine g_storeB rfl s6 ((p11.ne rfl).trans s42) Try.sizeOf50 rfl rfl h_q14 rfl ?_
    intro w16 W_w16
    replace h_q2 := keep_wrote h_q2 W_w16 n_q14_q2
    replace h_q4 := keep_wrote h_q4 W_w16 n_q14_q4
    replace h_q6 := keep_wrote h_q6 W_w16 n_q14_q6
    replace h_q14 := W_w16.here
    replace o_z12 := own_wrote o_z12 W_w16 d_z12_q14
    replace o_y12 := own_wrote o_y12 W_w16 d_y12_q14
    replace hB := below_wrote hB hB.size W_w16 g_q14.le
    clear W_w16
    refine wpList_nil ?_
    replace s2 : a11.eval (.tmp 2) = .pointer (some ⟨q2, 0, none⟩) := ((p11.ne rfl).trans ((p10.ne rfl).trans (p9.ne rfl))).trans s2
    replace s3 : a11.eval (.tmp 3) = .pointer (some ⟨q4, 0, none⟩) := ((p11.ne rfl).trans ((p10.ne rfl).trans (p9.ne rfl))).trans s3
    replace s4 : a11.eval (.tmp 4) = .pointer (some ⟨q6, 0, none⟩) := ((p11.ne rfl).trans ((p10.ne rfl).trans (p9.ne rfl))).trans s4
    refine hK11 _ _ ?_
    clear hK11
    refine wp_seq_k fun K17 hK17 => ?_
    refine wp_drawn (n := 120) [] [] [] (fun k_ v_ _wx => match k_ with | 0 => v_ = .agg #[.int .i64 room, .slice A zs.length cp, .slice B ds.length dp] | 1 => v_ = .int .i64 (room - ((usedN zs : Nat) : Int)) | 2 => v_ = .agg #[.int .i64 room, .slice A zs.length cp, .slice B ds.length dp] | 3 => v_ = .int .i64 (room - ((usedN zs : Nat) : Int)) | 4 => v_ = .int .i64 (room - ((usedN zs : Nat) : Int)) | 5 => v_ = .int .i64 (room - ((usedN zs : Nat) : Int)) | _ => True) (by kernel_rfl) (by kernel_rfl) (by kernel_rfl) (by kernel_rfl) hs.size ?_ ?_ ?_
    · intro i v wa wb hb hr
      rcases i with _ | _ | _ | _ | _ | _ | i
      · exact hr
      · exact hr
      · exact hr
      · exact hr
      · exact hr
      · exact hr
      · trivial
    · refine d_step rfl rfl ?_ (d_step rfl rfl ?_ (d_step rfl rfl ?_ (d_step rfl rfl ?_ (d_step rfl rfl ?_ (d_step rfl rfl ?_ (d_nil))))))
      · intro xv_ wx ρ hρ hwx hd K hK
        have e2 : ρ (.tmp 2) = .pointer (some ⟨q2, 0, none⟩) := (hρ.inn 2 rfl).trans s2
        have h_q2 := keep_below h_q2 hwx
        refine g_loadB rfl e2 Try.isAgg50 Try.sizeOf50 rfl h_q2 ?_
        exact hK _ _ (Below.refl _ _) rfl
      · intro xv_ wx ρ hρ hwx hd K hK
        obtain r0 : xv_ 0 = .agg #[.int .i64 room, .slice A zs.length cp, .slice B ds.length dp] := hd 0 rfl
        have e43 : ρ (.tmp 43) = .agg #[.int .i64 room, .slice A zs.length cp, .slice B ds.length dp] := (hρ.out 0 43 rfl (by rw [hs.size]; decide) rfl).trans r0
        refine g_call rfl (hρ.fn _) Try.call36 (arr1 e43) ?_
        refine (roomLeft_at _ hok rfl (by omega) hT ((hr_z.below hB).below hwx) rfl (by omega) ((hr_d.below hB).below hwx)).mono ?_
        rintro e wy ⟨rfl, hb18⟩
        exact ⟨_, rfl, hK _ _ hb18 rfl⟩
      · intro xv_ wx ρ hρ hwx hd K hK
        have e2 : ρ (.tmp 2) = .pointer (some ⟨q2, 0, none⟩) := (hρ.inn 2 rfl).trans s2
        have h_q2 := keep_below h_q2 hwx
        refine g_loadB rfl e2 Try.isAgg50 Try.sizeOf50 rfl h_q2 ?_
        exact hK _ _ (Below.refl _ _) rfl
      · intro xv_ wx ρ hρ hwx hd K hK
        obtain r2 : xv_ 2 = .agg #[.int .i64 room, .slice A zs.length cp, .slice B ds.length dp] := hd 2 rfl
        have e45 : ρ (.tmp 45) = .agg #[.int .i64 room, .slice A zs.length cp, .slice B ds.length dp] := (hρ.out 2 45 rfl (by rw [hs.size]; decide) rfl).trans r2
        refine g_call rfl (hρ.fn _) Try.call36 (arr1 e45) ?_
        refine (roomLeft_at _ hok rfl (by omega) hT ((hr_z.below hB).below hwx) rfl (by omega) ((hr_d.below hB).below hwx)).mono ?_
        rintro e wy ⟨rfl, hb19⟩
        exact ⟨_, rfl, hK _ _ hb19 rfl⟩
      · intro xv_ wx ρ hρ hwx hd K hK
        obtain r1 : xv_ 1 = .int .i64 (room - ((usedN zs : Nat) : Int)) := hd 1 rfl
        have e44 : ρ (.tmp 44) = .int .i64 (room - ((usedN zs : Nat) : Int)) := (hρ.out 1 44 rfl (by rw [hs.size]; decide) rfl).trans r1
        refine g_assign rfl e44 ?_
        exact hK _ _ (Below.refl _ _) rfl
      · intro xv_ wx ρ hρ hwx hd K hK
        obtain r3 : xv_ 3 = .int .i64 (room - ((usedN zs : Nat) : Int)) := hd 3 rfl
        have e46 : ρ (.tmp 46) = .int .i64 (room - ((usedN zs : Nat) : Int)) := (hρ.out 3 46 rfl (by rw [hs.size]; decide) rfl).trans r3
        refine g_assign rfl e46 ?_
        exact hK _ _ (Below.refl _ _) rfl
    · intro x0_ w20 hb_w20 hr0
      obtain r0 : x0_ 0 = .agg #[.int .i64 room, .slice A zs.length cp, .slice B ds.length dp] := hr0 0 (by decide) rfl rfl
      obtain r1 : x0_ 1 = .int .i64 (room - ((usedN zs : Nat) : Int)) := hr0 1 (by decide) rfl rfl
      obtain r2 : x0_ 2 = .agg #[.int .i64 room, .slice A zs.length cp, .slice B ds.length dp] := hr0 2 (by decide) rfl rfl
      obtain r3 : x0_ 3 = .int .i64 (room - ((usedN zs : Nat) : Int)) := hr0 3 (by decide) rfl rfl
      obtain r4 : x0_ 4 = .int .i64 (room - ((usedN zs : Nat) : Int)) := hr0 4 (by decide) rfl rfl
      obtain r5 : x0_ 5 = .int .i64 (room - ((usedN zs : Nat) : Int)) := hr0 5 (by decide) rfl rfl
      clear hr0
      replace h_q2 := keep_below h_q2 hb_w20
      replace h_q4 := keep_below h_q4 hb_w20
      replace h_q6 := keep_below h_q6 hb_w20
      replace h_q14 := keep_below h_q14 hb_w20
      replace o_z12 := own_below o_z12 hb_w20
      replace o_y12 := own_below o_y12 hb_w20
      replace hB := hB.trans (hb_w20.mono hB.size)
      clear hb_w20
      intro xv_ a12 hρ hsz hdf qx_ ql_ qk_ qlk_
      replace s2 : a12.eval (.tmp 2) = .pointer (some ⟨q2, 0, none⟩) := (hρ.inn 2 rfl).trans s2
      replace s3 : a12.eval (.tmp 3) = .pointer (some ⟨q4, 0, none⟩) := (hρ.inn 3 rfl).trans s3
      replace s4 : a12.eval (.tmp 4) = .pointer (some ⟨q6, 0, none⟩) := (hρ.inn 4 rfl).trans s4
      replace s6 : a12.eval (.tmp 6) = .pointer (some ⟨q14, 0, none⟩) := (hρ.inn 6 rfl).trans s6
      have s7 : a12.eval (.tmp 7) = .int .i64 (room - ((usedN zs : Nat) : Int)) := (hρ.out 4 7 rfl (by rw [hs.size]; decide)).trans ((qx_ 4 (by decide) rfl rfl).trans r4)
      have s8 : a12.eval (.tmp 8) = .int .i64 (room - ((usedN zs : Nat) : Int)) := (hρ.out 5 8 rfl (by rw [hs.size]; decide)).trans ((qx_ 5 (by decide) rfl rfl).trans r5)
      replace hs : St 120 a12 := ⟨hsz.trans hs.size, hdf.trans hs.nodef⟩
      clear hρ hsz hdf qx_ ql_ qk_ qlk_
      refine hK17 _ _ ?_
      clear hK17
      refine wp_seq_k fun K21 hK21 => ?_
      refine wp_seq_k fun K22 hK22 => ?_
      refine wp_region_lit ?_
      refine q_val rfl rfl ?_
      refine g_field (r := 1) rfl s2 Try.underlying50 rfl (fun w => Try.sizeOf47 w) rfl rfl ?_
      intro a13 p13
      have s47 : a13.eval (.tmp 47) = .pointer (some ⟨q2, 1, none⟩) := p13.at hs (by decide)
      replace hs := p13.st hs
      refine q_val rfl rfl ?_
      refine g_load rfl s47 Try.isAgg47 (box_cell h_q2 rfl) ?_
      intro a14 p14
      have s48 : a14.eval (.tmp 48) = .slice A zs.length cp := p14.at hs (by decide)
      replace hs := p14.st hs
      refine q_val rfl rfl ?_
      refine g_len (e := _) rfl Try.underlying47 s48 ?_
      intro a15 p15
      have s49 : a15.eval (.tmp 49) = .int .i64 ((zs.length : Nat) : Int) := p15.at hs (by decide)
      replace hs := p15.st hs
      refine q_val rfl rfl ?_
      refine g_move rfl rfl ?_
      intro a16 p16
      have s50 : a16.eval (.tmp 50) = .int .i64 0 := p16.at hs (by decide)
      replace hs := p16.st hs
      refine wpList_nil ?_
      replace s2 : a16.eval (.tmp 2) = .pointer (some ⟨q2, 0, none⟩) := ((p16.ne rfl).trans ((p15.ne rfl).trans ((p14.ne rfl).trans (p13.ne rfl)))).trans s2
      replace s3 : a16.eval (.tmp 3) = .pointer (some ⟨q4, 0, none⟩) := ((p16.ne rfl).trans ((p15.ne rfl).trans ((p14.ne rfl).trans (p13.ne rfl)))).trans s3
      replace s4 : a16.eval (.tmp 4) = .pointer (some ⟨q6, 0, none⟩) := ((p16.ne rfl).trans ((p15.ne rfl).trans ((p14.ne rfl).trans (p13.ne rfl)))).trans s4
      replace s6 : a16.eval (.tmp 6) = .pointer (some ⟨q14, 0, none⟩) := ((p16.ne rfl).trans ((p15.ne rfl).trans ((p14.ne rfl).trans (p13.ne rfl)))).trans s6
      replace s7 : a16.eval (.tmp 7) = .int .i64 (room - ((usedN zs : Nat) : Int)) := ((p16.ne rfl).trans ((p15.ne rfl).trans ((p14.ne rfl).trans (p13.ne rfl)))).trans s7
      replace s8 : a16.eval (.tmp 8) = .int .i64 (room - ((usedN zs : Nat) : Int)) := ((p16.ne rfl).trans ((p15.ne rfl).trans ((p14.ne rfl).trans (p13.ne rfl)))).trans s8
      replace s48 : a16.eval (.tmp 48) = .slice A zs.length cp := ((p16.ne rfl).trans (p15.ne rfl)).trans s48
      replace s49 : a16.eval (.tmp 49) = .int .i64 ((zs.length : Nat) : Int) := (p16.ne rfl).trans s49
      refine hK22 _ _ ?_
      clear hK22
      refine wp_block ?_
      refine wp_loop (fun a wr => ∃ (k : Nat), (St 120 a) ∧ (a.eval (.tmp 2) = .pointer (some ⟨q2, 0, none⟩)) ∧ (a.eval (.tmp 3) = .pointer (some ⟨q4, 0, none⟩)) ∧ (a.eval (.tmp 4) = .pointer (some ⟨q6, 0, none⟩)) ∧ (a.eval (.tmp 6) = .pointer (some ⟨q14, 0, none⟩)) ∧ (a.eval (.tmp 7) = .int .i64 (room - ((usedN zs : Nat) : Int))) ∧ (a.eval (.tmp 8) = .int .i64 (room - ((usedN zs : Nat) : Int) + ((lesS x.f1 (zs.take k) : Nat) : Int))) ∧ (a.eval (.tmp 48) = .slice A zs.length cp) ∧ (a.eval (.tmp 49) = .int .i64 ((zs.length : Nat) : Int)) ∧ (a.eval (.tmp 50) = .int .i64 ((k : Nat) : Int)) ∧ (Below w.heap.size w wr) ∧ (wr.heap[q2]? = some (.cells #[.int .i64 room, .slice A zs.length cp, .slice B ds.length dp] 50 (0, 0))) ∧ (wr.heap[q4]? = some (.cells #[.int .i64 x.f0, .int .i64 x.f1, .int .i64 x.f2, .string ⟨(x.f3).toArray⟩] 26 (0, 0))) ∧ (wr.heap[q6]? = some (.cells #[.int .i64 0, .slice none 0 0, .slice none 0 0] 50 (0, 0))) ∧ (wr.heap[q14]? = some (.cells #[.int .i64 room, .slice A12 zs.length c12, .slice B12 ds.length d12] 50 (0, 0))) ∧ (wr.ownsRow w.heap.size 26 4 (.slice A12 zs.length c12) zs.length (zs.flatMap cRecord)) ∧ (wr.ownsRow w.heap.size 3 1 (.slice B12 ds.length d12) ds.length (ds.flatMap cI)) ∧ (k ≤ zs.length)) (fun a _ => zs.length - (intOf (a.eval (.tmp 50))).toNat) (⟨0, hs, s2, s3, s4, s6, s7, (Eq.trans s8 (congrArg (Value.int .i64) (by simp [lesS]))), s48, s49, s50, hB, h_q2, h_q4, h_q6, h_q14, o_z12, o_y12, Nat.zero_le _⟩) ?_
      intro a17 w24 hI
      obtain ⟨k, hs, s2, s3, s4, s6, s7, s8, s48, s49, s50, hB, h_q2, h_q4, h_q6, h_q14, o_z12, o_y12, hk⟩ := hI
      have mu0 := s50
      refine wp_seq_k fun K25 hK25 => ?_
      refine wp_region_lit ?_
      refine q_val rfl rfl ?_
      refine g_lss rfl s50 s49 ?_
      intro a18 p18
      have s51 : a18.eval (.tmp 51) = .bool (decide (((k : Nat) : Int) < ((zs.length : Nat) : Int))) := p18.at hs (by decide)
      replace hs := p18.st hs
      refine wpList_nil ?_
      replace s2 : a18.eval (.tmp 2) = .pointer (some ⟨q2, 0, none⟩) := (p18.ne rfl).trans s2
      replace s3 : a18.eval (.tmp 3) = .pointer (some ⟨q4, 0, none⟩) := (p18.ne rfl).trans s3
      replace s4 : a18.eval (.tmp 4) = .pointer (some ⟨q6, 0, none⟩) := (p18.ne rfl).trans s4
      replace s6 : a18.eval (.tmp 6) = .pointer (some ⟨q14, 0, none⟩) := (p18.ne rfl).trans s6
      replace s7 : a18.eval (.tmp 7) = .int .i64 (room - ((usedN zs : Nat) : Int)) := (p18.ne rfl).trans s7
      replace s8 : a18.eval (.tmp 8) = .int .i64 (room - ((usedN zs : Nat) : Int) + ((lesS x.f1 (zs.take k) : Nat) : Int)) := (p18.ne rfl).trans s8
      replace s48 : a18.eval (.tmp 48) = .slice A zs.length cp := (p18.ne rfl).trans s48
      replace s49 : a18.eval (.tmp 49) = .int .i64 ((zs.length : Nat) : Int) := (p18.ne rfl).trans s49
      replace s50 : a18.eval (.tmp 50) = .int .i64 ((k : Nat) : Int) := (p18.ne rfl).trans s50
      refine hK25 _ _ ?_
      clear hK25
      refine wp_seq_k fun K26 hK26 => ?_
      by_cases hc27 : ((k : Nat) : Int) < ((zs.length : Nat) : Int)
      · replace s51 := s51.trans (congrArg Value.bool (decide_eq_true hc27))
        replace s51 : a18.eval (.tmp 51) = .bool true := s51
        refine c_true s51 ?_
        refine wp_skip ?_
        refine hK26 _ _ ?_
        clear hK26
        refine wp_seq_k fun K28 hK28 => ?_
        refine wp_block ?_
        refine wp_seq_k fun K29 hK29 => ?_
        have hlt : k < zs.length := by omega
        have hle := lesS_take_le (p := x.f1) (zs := zs) k
        have hle2 := lesS_le x.f1 zs
        have hsm : recSz zs[k] ≤ 40 := by have := rec_small hok (List.getElem_mem hlt); unfold recSz; omega
        refine wp_region_lit ?_
        obtain ⟨b30, o31, hA32, hl_hc33, hc33⟩ := Rd.get cRecord_len (hr_z.below hB) rfl (i := k) (by omega)
        refine q_val rfl rfl ?_
        refine g_index (r := o31 + k * 4) (k := k) rfl (s48.trans (slice_at hA32)) s50 Try.underlying47 (fun w => Try.sizeOf26 w) (by omega) rfl ?_
        intro a19 p19
        have s52 : a19.eval (.tmp 52) = .pointer (some ⟨b30, o31 + k * 4, none⟩) := p19.at hs (by decide)
        replace hs := p19.st hs
        refine q_val rfl rfl ?_
        refine g_loadA (l := cRecord zs[k]) rfl s52 Try.isAgg26 Try.sizeOf26 rfl (fun j u hu => by rw [Nat.add_assoc]; exact hc33 j u (by have := (List.getElem?_eq_some_iff.1 hu).1; exact this) hu) ?_
        intro a20 p20
        have s53 : a20.eval (.tmp 53) = .agg #[.int .i64 (zs[k].f0), .int .i64 (zs[k].f1), .int .i64 (zs[k].f2), .string ⟨(zs[k].f3).toArray⟩] := p20.at hs (by decide)
        replace hs := p20.st hs
        refine q_val rfl rfl ?_
        refine g_alloc rfl Try.zeroValue26 rfl ?_
        intro q34 w35 N_q34
        have n_q2_q34 := N_q34.ne ⟨lt_of_block h_q2⟩
        have n_q34_q2 := n_q2_q34.symm
        have n_q4_q34 := N_q34.ne ⟨lt_of_block h_q4⟩
        have n_q34_q4 := n_q4_q34.symm
        have n_q6_q34 := N_q34.ne ⟨lt_of_block h_q6⟩
        have n_q34_q6 := n_q6_q34.symm
        have n_q14_q34 := N_q34.ne ⟨lt_of_block h_q14⟩
        have n_q34_q14 := n_q14_q34.symm
        have d_z12_q34 := own_ne_new o_z12 N_q34
        have d_y12_q34 := own_ne_new o_y12 N_q34
        have g_q34 : GeB w.heap.size q34 := ⟨Nat.le_trans hB.size N_q34.lo⟩
        replace h_q2 := keep_below h_q2 N_q34.below
        replace h_q4 := keep_below h_q4 N_q34.below
        replace h_q6 := keep_below h_q6 N_q34.below
        replace h_q14 := keep_below h_q14 N_q34.below
        replace o_z12 := own_below o_z12 N_q34.below
        replace o_y12 := own_below o_y12 N_q34.below
        replace hB := below_new hB hB.size N_q34
        have h_q34 := N_q34.here
        clear N_q34
        intro a21 p21
        have s10 : a21.eval (.tmp 10) = .pointer (some ⟨q34, 0, none⟩) := p21.at hs (by decide)
        replace hs := p21.st hs
        refine q_eff rfl rfl ?_
        refine g_storeB rfl s10 ((p21.ne rfl).trans s53) Try.sizeOf26 rfl rfl h_q34 rfl ?_
        intro w36 W_w36
        replace h_q2 := keep_wrote h_q2 W_w36 n_q34_q2
        replace h_q4 := keep_wrote h_q4 W_w36 n_q34_q4
        replace h_q6 := keep_wrote h_q6 W_w36 n_q34_q6
        replace h_q14 := keep_wrote h_q14 W_w36 n_q34_q14
        replace h_q34 := W_w36.here
        replace o_z12 := own_wrote o_z12 W_w36 d_z12_q34
        replace o_y12 := own_wrote o_y12 W_w36 d_y12_q34
        replace hB := below_wrote hB hB.size W_w36 g_q34.le
        clear W_w36
        refine wpList_nil ?_
        replace s2 : a21.eval (.tmp 2) = .pointer (some ⟨q2, 0, none⟩) := ((p21.ne rfl).trans ((p20.ne rfl).trans (p19.ne rfl))).trans s2
        replace s3 : a21.eval (.tmp 3) = .pointer (some ⟨q4, 0, none⟩) := ((p21.ne rfl).trans ((p20.ne rfl).trans (p19.ne rfl))).trans s3
        replace s4 : a21.eval (.tmp 4) = .pointer (some ⟨q6, 0, none⟩) := ((p21.ne rfl).trans ((p20.ne rfl).trans (p19.ne rfl))).trans s4
        replace s6 : a21.eval (.tmp 6) = .pointer (some ⟨q14, 0, none⟩) := ((p21.ne rfl).trans ((p20.ne rfl).trans (p19.ne rfl))).trans s6
        replace s7 : a21.eval (.tmp 7) = .int .i64 (room - ((usedN zs : Nat) : Int)) := ((p21.ne rfl).trans ((p20.ne rfl).trans (p19.ne rfl))).trans s7
        replace s8 : a21.eval (.tmp 8) = .int .i64 (room - ((usedN zs : Nat) : Int) + ((lesS x.f1 (zs.take k) : Nat) : Int)) := ((p21.ne rfl).trans ((p20.ne rfl).trans (p19.ne rfl))).trans s8
        replace s48 : a21.eval (.tmp 48) = .slice A zs.length cp := ((p21.ne rfl).trans ((p20.ne rfl).trans (p19.ne rfl))).trans s48
        replace s49 : a21.eval (.tmp 49) = .int .i64 ((zs.length : Nat) : Int) := ((p21.ne rfl).trans ((p20.ne rfl).trans (p19.ne rfl))).trans s49
        replace s50 : a21.eval (.tmp 50) = .int .i64 ((k : Nat) : Int) := ((p21.ne rfl).trans ((p20.ne rfl).trans (p19.ne rfl))).trans s50
        replace s51 : a21.eval (.tmp 51) = .bool true := ((p21.ne rfl).trans ((p20.ne rfl).trans (p19.ne rfl))).trans s51
        refine hK29 _ _ ?_
        clear hK29
        refine wp_seq_k fun K37 hK37 => ?_
        refine wp_region_lit ?_
        refine q_val rfl rfl ?_
        refine g_field (r := 1) rfl s10 Try.underlying26 rfl (fun w => Try.sizeOf3 w) rfl rfl ?_
        intro a22 p22
        have s54 : a22.eval (.tmp 54) = .pointer (some ⟨q34, 1, none⟩) := p22.at hs (by decide)
        replace hs := p22.st hs
        refine q_val rfl rfl ?_
        refine g_load rfl s54 Try.isAgg3 (box_cell h_q34 rfl) ?_
        intro a23 p23
        have s55 : a23.eval (.tmp 55) = .int .i64 (zs[k].f1) := p23.at hs (by decide)
        replace hs := p23.st hs
        refine q_val rfl rfl ?_
        refine g_field (r := 1) rfl (((p23.ne rfl).trans (p22.ne rfl)).trans s3) Try.underlying26 rfl (fun w => Try.sizeOf3 w) rfl rfl ?_
        intro a24 p24
        have s56 : a24.eval (.tmp 56) = .pointer (some ⟨q4, 1, none⟩) := p24.at hs (by decide)
        replace hs := p24.st hs
        refine q_val rfl rfl ?_
        refine g_load rfl s56 Try.isAgg3 (box_cell h_q4 rfl) ?_
        intro a25 p25
        have s57 : a25.eval (.tmp 57) = .int .i64 x.f1 := p25.at hs (by decide)
        replace hs := p25.st hs
        refine q_val rfl rfl ?_
        refine g_lss rfl (((p25.ne rfl).trans (p24.ne rfl)).trans s55) s57 ?_
        intro a26 p26
        have s58 : a26.eval (.tmp 58) = .bool (decide (zs[k].f1 < x.f1)) := p26.at hs (by decide)
        replace hs := p26.st hs
        refine wpList_nil ?_
        replace s2 : a26.eval (.tmp 2) = .pointer (some ⟨q2, 0, none⟩) := ((p26.ne rfl).trans ((p25.ne rfl).trans ((p24.ne rfl).trans ((p23.ne rfl).trans (p22.ne rfl))))).trans s2
        replace s3 : a26.eval (.tmp 3) = .pointer (some ⟨q4, 0, none⟩) := ((p26.ne rfl).trans ((p25.ne rfl).trans ((p24.ne rfl).trans ((p23.ne rfl).trans (p22.ne rfl))))).trans s3
        replace s4 : a26.eval (.tmp 4) = .pointer (some ⟨q6, 0, none⟩) := ((p26.ne rfl).trans ((p25.ne rfl).trans ((p24.ne rfl).trans ((p23.ne rfl).trans (p22.ne rfl))))).trans s4
        replace s6 : a26.eval (.tmp 6) = .pointer (some ⟨q14, 0, none⟩) := ((p26.ne rfl).trans ((p25.ne rfl).trans ((p24.ne rfl).trans ((p23.ne rfl).trans (p22.ne rfl))))).trans s6
        replace s7 : a26.eval (.tmp 7) = .int .i64 (room - ((usedN zs : Nat) : Int)) := ((p26.ne rfl).trans ((p25.ne rfl).trans ((p24.ne rfl).trans ((p23.ne rfl).trans (p22.ne rfl))))).trans s7
        replace s8 : a26.eval (.tmp 8) = .int .i64 (room - ((usedN zs : Nat) : Int) + ((lesS x.f1 (zs.take k) : Nat) : Int)) := ((p26.ne rfl).trans ((p25.ne rfl).trans ((p24.ne rfl).trans ((p23.ne rfl).trans (p22.ne rfl))))).trans s8
        replace s48 : a26.eval (.tmp 48) = .slice A zs.length cp := ((p26.ne rfl).trans ((p25.ne rfl).trans ((p24.ne rfl).trans ((p23.ne rfl).trans (p22.ne rfl))))).trans s48
        replace s49 : a26.eval (.tmp 49) = .int .i64 ((zs.length : Nat) : Int) := ((p26.ne rfl).trans ((p25.ne rfl).trans ((p24.ne rfl).trans ((p23.ne rfl).trans (p22.ne rfl))))).trans s49
        replace s50 : a26.eval (.tmp 50) = .int .i64 ((k : Nat) : Int) := ((p26.ne rfl).trans ((p25.ne rfl).trans ((p24.ne rfl).trans ((p23.ne rfl).trans (p22.ne rfl))))).trans s50
        replace s51 : a26.eval (.tmp 51) = .bool true := ((p26.ne rfl).trans ((p25.ne rfl).trans ((p24.ne rfl).trans ((p23.ne rfl).trans (p22.ne rfl))))).trans s51
        replace s10 : a26.eval (.tmp 10) = .pointer (some ⟨q34, 0, none⟩) := ((p26.ne rfl).trans ((p25.ne rfl).trans ((p24.ne rfl).trans ((p23.ne rfl).trans (p22.ne rfl))))).trans s10
        refine hK37 _ _ ?_
        clear hK37
        by_cases hles : zs[k].f1 < x.f1
        · replace s58 := s58.trans (congrArg Value.bool (decide_eq_true hles))
          replace s58 : a26.eval (.tmp 58) = .bool true := s58
          refine c_true s58 ?_
          refine wp_region_lit ?_
          refine q_val rfl rfl ?_
          refine g_move rfl s8 ?_
          intro a27 p27
          have s59 : a27.eval (.tmp 59) = .int .i64 (room - ((usedN zs : Nat) : Int) + ((lesS x.f1 (zs.take k) : Nat) : Int)) := p27.at hs (by decide)
          replace hs := p27.st hs
          refine q_val rfl rfl ?_
          refine g_loadB rfl ((p27.ne rfl).trans s10) Try.isAgg26 Try.sizeOf26 rfl h_q34 ?_
          intro a28 p28
          have s60 : a28.eval (.tmp 60) = .agg #[.int .i64 (zs[k].f0), .int .i64 (zs[k].f1), .int .i64 (zs[k].f2), .string ⟨(zs[k].f3).toArray⟩] := p28.at hs (by decide)
          replace hs := p28.st hs
          refine q_val rfl rfl ?_
          refine g_call rfl rfl Try.call59 (arr1 s60) ?_
          refine (recordSize_at (z := zs[k]) _ (hT _ (List.getElem_mem hlt)) (Nat.le_trans (rec_small hok (List.getElem_mem hlt)) (by decide))).mono ?_
          rintro e w39 ⟨rfl, hb38⟩
          refine ⟨_, rfl, ?_⟩
          replace h_q2 := keep_below h_q2 hb38
          replace h_q4 := keep_below h_q4 hb38
          replace h_q6 := keep_below h_q6 hb38
          replace h_q14 := keep_below h_q14 hb38
          replace h_q34 := keep_below h_q34 hb38
          replace o_z12 := own_below o_z12 hb38
          replace o_y12 := own_below o_y12 hb38
          replace hB := hB.trans (hb38.mono hB.size)
          clear hb38
          intro a29 p29
          have s61 : a29.eval (.tmp 61) = .int .i64 ((recSz zs[k] : Nat) : Int) := p29.at hs (by decide)
          replace hs := p29.st hs
          refine q_val rfl rfl ?_
          refine g_add (r := (room - ((usedN zs : Nat) : Int) + ((lesS x.f1 (zs.take k) : Nat) : Int)) + ((recSz zs[k] : Nat) : Int)) rfl (((p29.ne rfl).trans (p28.ne rfl)).trans s59) s61 (by omega) (by omega) ?_
          intro a30 p30
          have s62 : a30.eval (.tmp 62) = .int .i64 ((room - ((usedN zs : Nat) : Int) + ((lesS x.f1 (zs.take k) : Nat) : Int)) + ((recSz zs[k] : Nat) : Int)) := p30.at hs (by decide)
          replace hs := p30.st hs
          refine q_val rfl rfl ?_
          refine g_assign rfl s62 ?_
          intro a31 p31
          have s8 : a31.eval (.tmp 8) = .int .i64 ((room - ((usedN zs : Nat) : Int) + ((lesS x.f1 (zs.take k) : Nat) : Int)) + ((recSz zs[k] : Nat) : Int)) := p31.at hs (by decide)
          replace hs := p31.st hs
          refine wpList_nil ?_
          replace s2 : a31.eval (.tmp 2) = .pointer (some ⟨q2, 0, none⟩) := ((p31.ne rfl).trans ((p30.ne rfl).trans ((p29.ne rfl).trans ((p28.ne rfl).trans (p27.ne rfl))))).trans s2
          replace s3 : a31.eval (.tmp 3) = .pointer (some ⟨q4, 0, none⟩) := ((p31.ne rfl).trans ((p30.ne rfl).trans ((p29.ne rfl).trans ((p28.ne rfl).trans (p27.ne rfl))))).trans s3
          replace s4 : a31.eval (.tmp 4) = .pointer (some ⟨q6, 0, none⟩) := ((p31.ne rfl).trans ((p30.ne rfl).trans ((p29.ne rfl).trans ((p28.ne rfl).trans (p27.ne rfl))))).trans s4
          replace s6 : a31.eval (.tmp 6) = .pointer (some ⟨q14, 0, none⟩) := ((p31.ne rfl).trans ((p30.ne rfl).trans ((p29.ne rfl).trans ((p28.ne rfl).trans (p27.ne rfl))))).trans s6
          replace s7 : a31.eval (.tmp 7) = .int .i64 (room - ((usedN zs : Nat) : Int)) := ((p31.ne rfl).trans ((p30.ne rfl).trans ((p29.ne rfl).trans ((p28.ne rfl).trans (p27.ne rfl))))).trans s7
          replace s48 : a31.eval (.tmp 48) = .slice A zs.length cp := ((p31.ne rfl).trans ((p30.ne rfl).trans ((p29.ne rfl).trans ((p28.ne rfl).trans (p27.ne rfl))))).trans s48
          replace s49 : a31.eval (.tmp 49) = .int .i64 ((zs.length : Nat) : Int) := ((p31.ne rfl).trans ((p30.ne rfl).trans ((p29.ne rfl).trans ((p28.ne rfl).trans (p27.ne rfl))))).trans s49
          replace s50 : a31.eval (.tmp 50) = .int .i64 ((k : Nat) : Int) := ((p31.ne rfl).trans ((p30.ne rfl).trans ((p29.ne rfl).trans ((p28.ne rfl).trans (p27.ne rfl))))).trans s50
          replace s51 : a31.eval (.tmp 51) = .bool true := ((p31.ne rfl).trans ((p30.ne rfl).trans ((p29.ne rfl).trans ((p28.ne rfl).trans (p27.ne rfl))))).trans s51
          replace s10 : a31.eval (.tmp 10) = .pointer (some ⟨q34, 0, none⟩) := ((p31.ne rfl).trans ((p30.ne rfl).trans ((p29.ne rfl).trans ((p28.ne rfl).trans (p27.ne rfl))))).trans s10
          replace s58 : a31.eval (.tmp 58) = .bool true := ((p31.ne rfl).trans ((p30.ne rfl).trans ((p29.ne rfl).trans ((p28.ne rfl).trans (p27.ne rfl))))).trans s58
          refine hK28 _ _ ?_
          clear hK28
          refine wp_region_lit ?_
          refine q_val rfl rfl ?_
          refine g_add (r := ((k + 1 : Nat) : Int)) rfl s50 rfl (by omega) (by omega) ?_
          intro a32 p32
          have s63 : a32.eval (.tmp 63) = .int .i64 ((k + 1 : Nat) : Int) := p32.at hs (by decide)
          replace hs := p32.st hs
          refine q_val rfl rfl ?_
          refine g_move rfl s63 ?_
          intro a33 p33
          have s50 : a33.eval (.tmp 50) = .int .i64 ((k + 1 : Nat) : Int) := p33.at hs (by decide)
          replace hs := p33.st hs
          refine wpList_nil ?_
          replace s2 : a33.eval (.tmp 2) = .pointer (some ⟨q2, 0, none⟩) := ((p33.ne rfl).trans (p32.ne rfl)).trans s2
          replace s3 : a33.eval (.tmp 3) = .pointer (some ⟨q4, 0, none⟩) := ((p33.ne rfl).trans (p32.ne rfl)).trans s3
          replace s4 : a33.eval (.tmp 4) = .pointer (some ⟨q6, 0, none⟩) := ((p33.ne rfl).trans (p32.ne rfl)).trans s4
          replace s6 : a33.eval (.tmp 6) = .pointer (some ⟨q14, 0, none⟩) := ((p33.ne rfl).trans (p32.ne rfl)).trans s6
          replace s7 : a33.eval (.tmp 7) = .int .i64 (room - ((usedN zs : Nat) : Int)) := ((p33.ne rfl).trans (p32.ne rfl)).trans s7
          replace s8 : a33.eval (.tmp 8) = .int .i64 ((room - ((usedN zs : Nat) : Int) + ((lesS x.f1 (zs.take k) : Nat) : Int)) + ((recSz zs[k] : Nat) : Int)) := ((p33.ne rfl).trans (p32.ne rfl)).trans s8
          replace s48 : a33.eval (.tmp 48) = .slice A zs.length cp := ((p33.ne rfl).trans (p32.ne rfl)).trans s48
          replace s49 : a33.eval (.tmp 49) = .int .i64 ((zs.length : Nat) : Int) := ((p33.ne rfl).trans (p32.ne rfl)).trans s49
          replace s51 : a33.eval (.tmp 51) = .bool true := ((p33.ne rfl).trans (p32.ne rfl)).trans s51
          replace s10 : a33.eval (.tmp 10) = .pointer (some ⟨q34, 0, none⟩) := ((p33.ne rfl).trans (p32.ne rfl)).trans s10
          replace s58 : a33.eval (.tmp 58) = .bool true := ((p33.ne rfl).trans (p32.ne rfl)).trans s58
          have hst := lesS_take (p := x.f1) hlt
          rw [if_pos hles] at hst
          refine show _ ∧ _ from ⟨⟨k + 1, hs, s2, s3, s4, s6, s7, (Eq.trans s8 (congrArg (Value.int .i64) (by omega))), s48, s49, s50, hB, h_q2, h_q4, h_q6, h_q14, o_z12, o_y12, by omega⟩, ?_⟩
          show zs.length - (intOf (a33.eval (.tmp 50))).toNat < zs.length - (intOf (a17.eval (.tmp 50))).toNat
          rw [s50, mu0]
          simp only [intOf]
          omega
        · replace s58 := s58.trans (congrArg Value.bool (decide_eq_false hles))
          replace s58 : a26.eval (.tmp 58) = .bool false := s58
          refine c_false s58 ?_
          refine wp_skip ?_
          refine hK28 _ _ ?_
          clear hK28
          refine wp_region_lit ?_
          refine q_val rfl rfl ?_
          refine g_add (r := ((k + 1 : Nat) : Int)) rfl s50 rfl (by omega) (by omega) ?_
          intro a27 p27
          have s63 : a27.eval (.tmp 63) = .int .i64 ((k + 1 : Nat) : Int) := p27.at hs (by decide)
          replace hs := p27.st hs
          refine q_val rfl rfl ?_
          refine g_move rfl s63 ?_
          intro a28 p28
          have s50 : a28.eval (.tmp 50) = .int .i64 ((k + 1 : Nat) : Int) := p28.at hs (by decide)
          replace hs := p28.st hs
          refine wpList_nil ?_
          replace s2 : a28.eval (.tmp 2) = .pointer (some ⟨q2, 0, none⟩) := ((p28.ne rfl).trans (p27.ne rfl)).trans s2
          replace s3 : a28.eval (.tmp 3) = .pointer (some ⟨q4, 0, none⟩) := ((p28.ne rfl).trans (p27.ne rfl)).trans s3
          replace s4 : a28.eval (.tmp 4) = .pointer (some ⟨q6, 0, none⟩) := ((p28.ne rfl).trans (p27.ne rfl)).trans s4
          replace s6 : a28.eval (.tmp 6) = .pointer (some ⟨q14, 0, none⟩) := ((p28.ne rfl).trans (p27.ne rfl)).trans s6
          replace s7 : a28.eval (.tmp 7) = .int .i64 (room - ((usedN zs : Nat) : Int)) := ((p28.ne rfl).trans (p27.ne rfl)).trans s7
          replace s8 : a28.eval (.tmp 8) = .int .i64 (room - ((usedN zs : Nat) : Int) + ((lesS x.f1 (zs.take k) : Nat) : Int)) := ((p28.ne rfl).trans (p27.ne rfl)).trans s8
          replace s48 : a28.eval (.tmp 48) = .slice A zs.length cp := ((p28.ne rfl).trans (p27.ne rfl)).trans s48
          replace s49 : a28.eval (.tmp 49) = .int .i64 ((zs.length : Nat) : Int) := ((p28.ne rfl).trans (p27.ne rfl)).trans s49
          replace s51 : a28.eval (.tmp 51) = .bool true := ((p28.ne rfl).trans (p27.ne rfl)).trans s51
          replace s10 : a28.eval (.tmp 10) = .pointer (some ⟨q34, 0, none⟩) := ((p28.ne rfl).trans (p27.ne rfl)).trans s10
          replace s58 : a28.eval (.tmp 58) = .bool false := ((p28.ne rfl).trans (p27.ne rfl)).trans s58
          have hst := lesS_take (p := x.f1) hlt
          rw [if_neg hles] at hst
          refine show _ ∧ _ from ⟨⟨k + 1, hs, s2, s3, s4, s6, s7, (Eq.trans s8 (congrArg (Value.int .i64) (by omega))), s48, s49, s50, hB, h_q2, h_q4, h_q6, h_q14, o_z12, o_y12, by omega⟩, ?_⟩
          show zs.length - (intOf (a28.eval (.tmp 50))).toNat < zs.length - (intOf (a17.eval (.tmp 50))).toNat
          rw [s50, mu0]
          simp only [intOf]
          omega
      · replace s51 := s51.trans (congrArg Value.bool (decide_eq_false hc27))
        replace s51 : a18.eval (.tmp 51) = .bool false := s51
        refine c_false s51 ?_
        refine wp_exit ?_
        refine hK21 _ _ ?_
        clear hK21
        refine wp_seq_k fun K40 hK40 => ?_
        refine wp_seq_k fun K41 hK41 => ?_
        refine wp_region_lit ?_
        refine q_val rfl rfl ?_
        refine g_move rfl s8 ?_
        intro a19 p19
        have s64 : a19.eval (.tmp 64) = .int .i64 (room - ((usedN zs : Nat) : Int) + ((lesS x.f1 (zs.take k) : Nat) : Int)) := p19.at hs (by decide)
        replace hs := p19.st hs
        refine q_val rfl rfl ?_
        refine g_loadB rfl ((p19.ne rfl).trans s3) Try.isAgg26 Try.sizeOf26 rfl h_q4 ?_
        intro a20 p20
        have s65 : a20.eval (.tmp 65) = .agg #[.int .i64 x.f0, .int .i64 x.f1, .int .i64 x.f2, .string ⟨(x.f3).toArray⟩] := p20.at hs (by decide)
        replace hs := p20.st hs
        refine q_val rfl rfl ?_
        refine g_call rfl rfl Try.call59 (arr1 s65) ?_
        refine (recordSize_at (z := x) _ hTx (by omega)).mono ?_
        rintro e w43 ⟨rfl, hb42⟩
        refine ⟨_, rfl, ?_⟩
        replace h_q2 := keep_below h_q2 hb42
        replace h_q4 := keep_below h_q4 hb42
        replace h_q6 := keep_below h_q6 hb42
        replace h_q14 := keep_below h_q14 hb42
        replace o_z12 := own_below o_z12 hb42
        replace o_y12 := own_below o_y12 hb42
        replace hB := hB.trans (hb42.mono hB.size)
        clear hb42
        intro a21 p21
        have s66 : a21.eval (.tmp 66) = .int .i64 ((recSz x : Nat) : Int) := p21.at hs (by decide)
        replace hs := p21.st hs
        refine q_val rfl rfl ?_
        refine g_lss rfl (((p21.ne rfl).trans (p20.ne rfl)).trans s64) s66 ?_
        intro a22 p22
        have s67 : a22.eval (.tmp 67) = .bool (decide (room - ((usedN zs : Nat) : Int) + ((lesS x.f1 (zs.take k) : Nat) : Int) < ((recSz x : Nat) : Int))) := p22.at hs (by decide)
        replace hs := p22.st hs
        refine wpList_nil ?_
        replace s2 : a22.eval (.tmp 2) = .pointer (some ⟨q2, 0, none⟩) := ((p22.ne rfl).trans ((p21.ne rfl).trans ((p20.ne rfl).trans (p19.ne rfl)))).trans s2
        replace s3 : a22.eval (.tmp 3) = .pointer (some ⟨q4, 0, none⟩) := ((p22.ne rfl).trans ((p21.ne rfl).trans ((p20.ne rfl).trans (p19.ne rfl)))).trans s3
        replace s4 : a22.eval (.tmp 4) = .pointer (some ⟨q6, 0, none⟩) := ((p22.ne rfl).trans ((p21.ne rfl).trans ((p20.ne rfl).trans (p19.ne rfl)))).trans s4
        replace s6 : a22.eval (.tmp 6) = .pointer (some ⟨q14, 0, none⟩) := ((p22.ne rfl).trans ((p21.ne rfl).trans ((p20.ne rfl).trans (p19.ne rfl)))).trans s6
        replace s7 : a22.eval (.tmp 7) = .int .i64 (room - ((usedN zs : Nat) : Int)) := ((p22.ne rfl).trans ((p21.ne rfl).trans ((p20.ne rfl).trans (p19.ne rfl)))).trans s7
        refine hK41 _ _ ?_
        clear hK41
        by_cases hfit : room - ((usedN zs : Nat) : Int) + ((lesS x.f1 (zs.take k) : Nat) : Int) < ((recSz x : Nat) : Int)
        · replace s67 := s67.trans (congrArg Value.bool (decide_eq_true hfit))
          replace s67 : a22.eval (.tmp 67) = .bool true := s67
          refine c_true s67 ?_
          have hz2 : zs.take k = zs := List.take_of_length_le (by omega)
          rw [hz2] at hfit
          have hres : kRes room zs ds x = (zs, ds ++ [x.f0]) := kRes_not (by unfold kFits; exact decide_eq_false (by omega))
          refine wp_region_lit ?_
          refine q_val rfl rfl ?_
          refine g_field (r := 2) rfl s6 Try.underlying50 rfl (fun w => Try.sizeOf48 w) rfl rfl ?_
          intro a23 p23
          have s68 : a23.eval (.tmp 68) = .pointer (some ⟨q14, 2, none⟩) := p23.at hs (by decide)
          replace hs := p23.st hs
          refine q_val rfl rfl ?_
          refine g_load rfl s68 Try.isAgg48 (box_cell h_q14 rfl) ?_
          intro a24 p24
          have s69 : a24.eval (.tmp 69) = .slice B12 ds.length d12 := p24.at hs (by decide)
          replace hs := p24.st hs
          refine q_val rfl rfl ?_
          refine g_field (r := 0) rfl (((p24.ne rfl).trans (p23.ne rfl)).trans s3) Try.underlying26 rfl (fun w => Try.sizeOf3 w) rfl rfl ?_
          intro a25 p25
          have s70 : a25.eval (.tmp 70) = .pointer (some ⟨q4, 0, none⟩) := p25.at hs (by decide)
          replace hs := p25.st hs
          refine q_val rfl rfl ?_
          refine g_load rfl s70 Try.isAgg3 (box_cell h_q4 rfl) ?_
          intro a26 p26
          have s71 : a26.eval (.tmp 71) = .int .i64 x.f0 := p26.at hs (by decide)
          replace hs := p26.st hs
          refine q_val rfl rfl ?_
          refine g_bslice1 (cs := #[.int .i64 x.f0]) rfl Try.underlying48 Try.sizeOf3 Try.zeroValue3 s71 (by kernel_rfl) rfl (by decide) ?_
          intro q44 w45 N_q44
          have n_q2_q44 := N_q44.ne ⟨lt_of_block h_q2⟩
          have n_q44_q2 := n_q2_q44.symm
          have n_q4_q44 := N_q44.ne ⟨lt_of_block h_q4⟩
          have n_q44_q4 := n_q4_q44.symm
          have n_q6_q44 := N_q44.ne ⟨lt_of_block h_q6⟩
          have n_q44_q6 := n_q6_q44.symm
          have n_q14_q44 := N_q44.ne ⟨lt_of_block h_q14⟩
          have n_q44_q14 := n_q14_q44.symm
          have d_z12_q44 := own_ne_new o_z12 N_q44
          have d_y12_q44 := own_ne_new o_y12 N_q44
          have g_q44 : GeB w.heap.size q44 := ⟨Nat.le_trans hB.size N_q44.lo⟩
          replace h_q2 := keep_below h_q2 N_q44.below
          replace h_q4 := keep_below h_q4 N_q44.below
          replace h_q6 := keep_below h_q6 N_q44.below
          replace h_q14 := keep_below h_q14 N_q44.below
          replace o_z12 := own_below o_z12 N_q44.below
          replace o_y12 := own_below o_y12 N_q44.below
          replace hB := below_new hB hB.size N_q44
          have h_q44 := N_q44.here
          clear N_q44
          intro a27 p27
          have s72 : a27.eval (.tmp 72) = .slice (some ⟨q44, 0, none⟩) 1 1 := p27.at hs (by decide)
          replace hs := p27.st hs
          refine q_val rfl rfl ?_
          refine g_append (n' := ds.length + 1) (ys := (ds ++ [x.f0]).flatMap cI) w.heap.size (.int .i64 0) 1 8 rfl (((p27.ne rfl).trans ((p26.ne rfl).trans (p25.ne rfl))).trans s69) s72 Try.underlying48 infoI64 rfl (by decide) o_y12 (fun h => by cases h) (rd_box (xs := ([x.f0]).flatMap cI) h_q44 rfl rfl) (flatI_one _) (by omega) hB.size (by decide) (by omega) (by first | rfl | simp [List.flatMap_append] | (simp [List.flatMap_append, cI]; done)) ?_
          intro A_r46 c_r46 w47 P_r46
          have d_r46_q2 := P_r46.ne d_y12_q2 (lt_of_block h_q2)
          have d_r46_q4 := P_r46.ne d_y12_q4 (lt_of_block h_q4)
          have d_r46_q6 := P_r46.ne d_y12_q6 (lt_of_block h_q6)
          have d_r46_q14 := P_r46.ne d_y12_q14 (lt_of_block h_q14)
          have d_r46_q44 := P_r46.ne d_y12_q44 (lt_of_block h_q44)
          have m_z12_r46 := P_r46.row m_z12_y12 o_z12
          have m_r46_z12 := ne_row_symm m_z12_r46
          have g_r46 := P_r46.ge g_y12 hB.size
          replace h_q2 := keep_grown h_q2 P_r46.grown d_y12_q2
          replace h_q4 := keep_grown h_q4 P_r46.grown d_y12_q4
          replace h_q6 := keep_grown h_q6 P_r46.grown d_y12_q6
          replace h_q14 := keep_grown h_q14 P_r46.grown d_y12_q14
          replace h_q44 := keep_grown h_q44 P_r46.grown d_y12_q44
          replace o_z12 := own_grown o_z12 P_r46.grown m_z12_y12
          replace hB := below_grown hB hB.size P_r46.grown g_y12
          have o_r46 := P_r46.own
          clear P_r46
          intro a28 p28
          have s73 : a28.eval (.tmp 73) = .slice A_r46 (ds.length + 1) c_r46 := p28.at hs (by decide)
          replace hs := p28.st hs
          refine q_val rfl rfl ?_
          refine g_field (r := 2) rfl (((p28.ne rfl).trans ((p27.ne rfl).trans ((p26.ne rfl).trans ((p25.ne rfl).trans ((p24.ne rfl).trans (p23.ne rfl)))))).trans s6) Try.underlying50 rfl (fun w => Try.sizeOf48 w) rfl rfl ?_
          intro a29 p29
          have s74 : a29.eval (.tmp 74) = .pointer (some ⟨q14, 2, none⟩) := p29.at hs (by decide)
          replace hs := p29.st hs
          refine q_eff rfl rfl ?_
          refine g_store (cs' := #[.int .i64 room, .slice A12 zs.length c12, .slice A_r46 (ds.length + 1) c_r46]) rfl s74 ((p29.ne rfl).trans s73) Try.sizeOf48 rfl h_q14 (Nat.le_of_ble_eq_true rfl) rfl ?_
          intro w48 W_w48
          replace h_q2 := keep_wrote h_q2 W_w48 n_q14_q2
          replace h_q4 := keep_wrote h_q4 W_w48 n_q14_q4
          replace h_q6 := keep_wrote h_q6 W_w48 n_q14_q6
          replace h_q14 := W_w48.here
          replace h_q44 := keep_wrote h_q44 W_w48 n_q14_q44
          replace o_z12 := own_wrote o_z12 W_w48 d_z12_q14
          replace o_r46 := own_wrote o_r46 W_w48 d_r46_q14
          replace hB := below_wrote hB hB.size W_w48 g_q14.le
          clear W_w48
          refine wpList_nil ?_
          replace s2 : a29.eval (.tmp 2) = .pointer (some ⟨q2, 0, none⟩) := ((p29.ne rfl).trans ((p28.ne rfl).trans ((p27.ne rfl).trans ((p26.ne rfl).trans ((p25.ne rfl).trans ((p24.ne rfl).trans (p23.ne rfl))))))).trans s2
          replace s3 : a29.eval (.tmp 3) = .pointer (some ⟨q4, 0, none⟩) := ((p29.ne rfl).trans ((p28.ne rfl).trans ((p27.ne rfl).trans ((p26.ne rfl).trans ((p25.ne rfl).trans ((p24.ne rfl).trans (p23.ne rfl))))))).trans s3
          replace s4 : a29.eval (.tmp 4) = .pointer (some ⟨q6, 0, none⟩) := ((p29.ne rfl).trans ((p28.ne rfl).trans ((p27.ne rfl).trans ((p26.ne rfl).trans ((p25.ne rfl).trans ((p24.ne rfl).trans (p23.ne rfl))))))).trans s4
          replace s6 : a29.eval (.tmp 6) = .pointer (some ⟨q14, 0, none⟩) := ((p29.ne rfl).trans ((p28.ne rfl).trans ((p27.ne rfl).trans ((p26.ne rfl).trans ((p25.ne rfl).trans ((p24.ne rfl).trans (p23.ne rfl))))))).trans s6
          replace s7 : a29.eval (.tmp 7) = .int .i64 (room - ((usedN zs : Nat) : Int)) := ((p29.ne rfl).trans ((p28.ne rfl).trans ((p27.ne rfl).trans ((p26.ne rfl).trans ((p25.ne rfl).trans ((p24.ne rfl).trans (p23.ne rfl))))))).trans s7
          refine hK40 _ _ ?_
          clear hK40
          refine wp_seq_k fun K49 hK49 => ?_
          refine wp_seq_k fun K50 hK50 => ?_
          refine wp_region_lit ?_
          refine q_val rfl rfl ?_
          refine g_loadB rfl s6 Try.isAgg50 Try.sizeOf50 rfl h_q14 ?_
          intro a30 p30
          have s114 : a30.eval (.tmp 114) = .agg #[.int .i64 room, .slice A12 zs.length c12, .slice A_r46 (ds.length + 1) c_r46] := p30.at hs (by decide)
          replace hs := p30.st hs
          refine q_val rfl rfl ?_
          refine g_call rfl rfl Try.call35 (arr1 s114) ?_
          refine (recorderOk_any _ _ _ _ _ _ _ zs (ds ++ [x.f0]) _ rfl (by omega) hT (Rd.of_own o_z12) (by simp only [List.length_append, List.length_cons, List.length_nil, List.length_drop, List.length_take] <;> omega) (by omega) (Rd.of_own o_r46)).mono ?_
          rintro e w52 ⟨rfl, hb51⟩
          refine ⟨_, rfl, ?_⟩
          replace h_q2 := keep_below h_q2 hb51
          replace h_q4 := keep_below h_q4 hb51
          replace h_q6 := keep_below h_q6 hb51
          replace h_q14 := keep_below h_q14 hb51
          replace h_q44 := keep_below h_q44 hb51
          replace o_z12 := own_below o_z12 hb51
          replace o_r46 := own_below o_r46 hb51
          replace hB := hB.trans (hb51.mono hB.size)
          clear hb51
          intro a31 p31
          have s115 : a31.eval (.tmp 115) = .bool (rcOk room zs (ds ++ [x.f0])) := p31.at hs (by decide)
          replace hs := p31.st hs
          refine q_val rfl rfl ?_
          refine g_not rfl s115 ?_
          intro a32 p32
          have s116 : a32.eval (.tmp 116) = .bool (!(rcOk room zs (ds ++ [x.f0]))) := p32.at hs (by decide)
          replace hs := p32.st hs
          refine wpList_nil ?_
          replace s2 : a32.eval (.tmp 2) = .pointer (some ⟨q2, 0, none⟩) := ((p32.ne rfl).trans ((p31.ne rfl).trans (p30.ne rfl))).trans s2
          replace s4 : a32.eval (.tmp 4) = .pointer (some ⟨q6, 0, none⟩) := ((p32.ne rfl).trans ((p31.ne rfl).trans (p30.ne rfl))).trans s4
          replace s6 : a32.eval (.tmp 6) = .pointer (some ⟨q14, 0, none⟩) := ((p32.ne rfl).trans ((p31.ne rfl).trans (p30.ne rfl))).trans s6
          refine hK50 _ _ ?_
          clear hK50
          cases hq : rcOk room zs (ds ++ [x.f0])
          · replace s116 := s116.trans (congrArg (fun b => Value.bool (!b)) hq)
            replace s116 : a32.eval (.tmp 116) = .bool true := s116
            refine c_true s116 ?_
            refine wp_seq_k fun K53 hK53 => ?_
            refine wp_region_lit ?_
            refine q_val rfl rfl ?_
            refine g_loadB rfl s2 Try.isAgg50 Try.sizeOf50 rfl h_q2 ?_
            intro a33 p33
            have s117 : a33.eval (.tmp 117) = .agg #[.int .i64 room, .slice A zs.length cp, .slice B ds.length dp] := p33.at hs (by decide)
            replace hs := p33.st hs
            refine q_val rfl rfl ?_
            refine g_call rfl rfl Try.call58 (arr1 s117) ?_
            refine (cloneRecorder_any _ _ _ _ _ _ _ zs ds _ rfl (by omega) (hr_z.below hB) rfl (by omega) (hr_d.below hB)).mono ?_
            rintro e w55 ⟨A54, c54, B54, d54, rfl, o_z54, o_y54, hb54⟩
            refine ⟨_, rfl, ?_⟩
            have m_z54_y54 := own_ne_type o_z54 o_y54 (by decide)
            have m_y54_z54 := ne_row_symm m_z54_y54
            have d_z54_q2 := own_ne_box o_z54 (lt_of_block h_q2)
            have d_z54_q4 := own_ne_box o_z54 (lt_of_block h_q4)
            have d_z54_q6 := own_ne_box o_z54 (lt_of_block h_q6)
            have d_z54_q14 := own_ne_box o_z54 (lt_of_block h_q14)
            have d_z54_q44 := own_ne_box o_z54 (lt_of_block h_q44)
            have m_z12_z54 := own_ne_row o_z12 o_z54 (Nat.le_refl _)
            have m_z54_z12 := ne_row_symm m_z12_z54
            have m_r46_z54 := own_ne_row o_r46 o_z54 (Nat.le_refl _)
            have m_z54_r46 := ne_row_symm m_r46_z54
            have g_z54 : ∀ b, (A54 : Option Addr).map (·.block) = some b → w.heap.size ≤ b := fun b h => Nat.le_trans hB.size (own_row o_z54 b h).1
            replace o_z54 := own_base (base := w.heap.size) o_z54 hB.size
            have d_y54_q2 := own_ne_box o_y54 (lt_of_block h_q2)
            have d_y54_q4 := own_ne_box o_y54 (lt_of_block h_q4)
            have d_y54_q6 := own_ne_box o_y54 (lt_of_block h_q6)
            have d_y54_q14 := own_ne_box o_y54 (lt_of_block h_q14)
            have d_y54_q44 := own_ne_box o_y54 (lt_of_block h_q44)
            have m_z12_y54 := own_ne_row o_z12 o_y54 (Nat.le_refl _)
            have m_y54_z12 := ne_row_symm m_z12_y54
            have m_r46_y54 := own_ne_row o_r46 o_y54 (Nat.le_refl _)
            have m_y54_r46 := ne_row_symm m_r46_y54
            have g_y54 : ∀ b, (B54 : Option Addr).map (·.block) = some b → w.heap.size ≤ b := fun b h => Nat.le_trans hB.size (own_row o_y54 b h).1
            replace o_y54 := own_base (base := w.heap.size) o_y54 hB.size
            replace h_q2 := keep_below h_q2 hb54
            replace h_q4 := keep_below h_q4 hb54
            replace h_q6 := keep_below h_q6 hb54
            replace h_q14 := keep_below h_q14 hb54
            replace h_q44 := keep_below h_q44 hb54
            replace o_z12 := own_below o_z12 hb54
            replace o_r46 := own_below o_r46 hb54
            replace hB := hB.trans (hb54.mono hB.size)
            clear hb54
            intro a34 p34
            have s118 : a34.eval (.tmp 118) = .agg #[.int .i64 room, .slice A54 zs.length c54, .slice B54 ds.length d54] := p34.at hs (by decide)
            replace hs := p34.st hs
            refine q_eff rfl rfl ?_
            refine g_storeB rfl (((p34.ne rfl).trans (p33.ne rfl)).trans s4) s118 Try.sizeOf50 rfl rfl h_q6 rfl ?_
            intro w56 W_w56
            replace h_q2 := keep_wrote h_q2 W_w56 n_q6_q2
            replace h_q4 := keep_wrote h_q4 W_w56 n_q6_q4
            replace h_q6 := W_w56.here
            replace h_q14 := keep_wrote h_q14 W_w56 n_q6_q14
            replace h_q44 := keep_wrote h_q44 W_w56 n_q6_q44
            replace o_z12 := own_wrote o_z12 W_w56 d_z12_q6
            replace o_r46 := own_wrote o_r46 W_w56 d_r46_q6
            replace o_z54 := own_wrote o_z54 W_w56 d_z54_q6
            replace o_y54 := own_wrote o_y54 W_w56 d_y54_q6
            replace hB := below_wrote hB hB.size W_w56 g_q6.le
            clear W_w56
            refine wpList_nil ?_
            replace s4 : a34.eval (.tmp 4) = .pointer (some ⟨q6, 0, none⟩) := ((p34.ne rfl).trans (p33.ne rfl)).trans s4
            replace s6 : a34.eval (.tmp 6) = .pointer (some ⟨q14, 0, none⟩) := ((p34.ne rfl).trans (p33.ne rfl)).trans s6
            refine hK53 _ _ ?_
            clear hK53
            refine wp_ret ?_
            try dsimp only [Exit.then, Exit.inBlock]
            refine ret1 hs Try.results34 (res_cell s4 h_q6 Try.isAgg50 Try.sizeOf50 rfl) ?_
            refine ⟨_, rfl, ?_, hB⟩
            rw [keepR_bad hres hq]
            exact ⟨_, _, _, _, _, _, rfl, rfl, rfl, o_z54, o_y54⟩
          · replace s116 := s116.trans (congrArg (fun b => Value.bool (!b)) hq)
            replace s116 : a32.eval (.tmp 116) = .bool false := s116
            refine c_false s116 ?_
            refine wp_skip ?_
            refine hK49 _ _ ?_
            clear hK49
            refine wp_seq_k fun K57 hK57 => ?_
            refine wp_region_lit ?_
            refine q_val rfl rfl ?_
            refine g_loadB rfl s6 Try.isAgg50 Try.sizeOf50 rfl h_q14 ?_
            intro a33 p33
            have s119 : a33.eval (.tmp 119) = .agg #[.int .i64 room, .slice A12 zs.length c12, .slice A_r46 (ds.length + 1) c_r46] := p33.at hs (by decide)
            replace hs := p33.st hs
            refine q_eff rfl rfl ?_
            refine g_storeB rfl ((p33.ne rfl).trans s4) s119 Try.sizeOf50 rfl rfl h_q6 rfl ?_
            intro w58 W_w58
            replace h_q2 := keep_wrote h_q2 W_w58 n_q6_q2
            replace h_q4 := keep_wrote h_q4 W_w58 n_q6_q4
            replace h_q6 := W_w58.here
            replace h_q14 := keep_wrote h_q14 W_w58 n_q6_q14
            replace h_q44 := keep_wrote h_q44 W_w58 n_q6_q44
            replace o_z12 := own_wrote o_z12 W_w58 d_z12_q6
            replace o_r46 := own_wrote o_r46 W_w58 d_r46_q6
            replace hB := below_wrote hB hB.size W_w58 g_q6.le
            clear W_w58
            refine wpList_nil ?_
            replace s4 : a33.eval (.tmp 4) = .pointer (some ⟨q6, 0, none⟩) := (p33.ne rfl).trans s4
            refine hK57 _ _ ?_
            clear hK57
            refine wp_ret ?_
            try dsimp only [Exit.then, Exit.inBlock]
            refine ret1 hs Try.results34 (res_cell s4 h_q6 Try.isAgg50 Try.sizeOf50 rfl) ?_
            refine ⟨_, rfl, ?_, hB⟩
            rw [keepR_yes hkok hres hq]
            exact ⟨_, _, _, _, _, _, rfl, rfl, (by simp only [List.length_append, List.length_cons, List.length_nil, List.length_drop, List.length_take] <;> omega), o_z12, o_r46⟩
        · replace s67 := s67.trans (congrArg Value.bool (decide_eq_false hfit))
          replace s67 : a22.eval (.tmp 67) = .bool false := s67
          refine c_false s67 ?_
          refine wp_seq_k fun K59 hK59 => ?_
          refine wp_block ?_
          have hz2 : zs.take k = zs := List.take_of_length_le (by omega)
          rw [hz2] at hfit
          refine wp_loop (fun a wr => ∃ (zs2 : List ERecord) (n2 : Nat) (ds2 : List Int) (m2 : Nat) (A2 : Option Addr) (c2 : Nat) (B2 : Option Addr) (d2 : Nat), (St 120 a) ∧ (a.eval (.tmp 2) = .pointer (some ⟨q2, 0, none⟩)) ∧ (a.eval (.tmp 3) = .pointer (some ⟨q4, 0, none⟩)) ∧ (a.eval (.tmp 4) = .pointer (some ⟨q6, 0, none⟩)) ∧ (a.eval (.tmp 6) = .pointer (some ⟨q14, 0, none⟩)) ∧ (a.eval (.tmp 7) = .int .i64 (room - ((usedN zs2 : Nat) : Int))) ∧ (Below w.heap.size w wr) ∧ (wr.heap[q2]? = some (.cells #[.int .i64 room, .slice A zs.length cp, .slice B ds.length dp] 50 (0, 0))) ∧ (wr.heap[q4]? = some (.cells #[.int .i64 x.f0, .int .i64 x.f1, .int .i64 x.f2, .string ⟨(x.f3).toArray⟩] 26 (0, 0))) ∧ (wr.heap[q6]? = some (.cells #[.int .i64 0, .slice none 0 0, .slice none 0 0] 50 (0, 0))) ∧ (wr.heap[q14]? = some (.cells #[.int .i64 room, .slice A2 n2 c2, .slice B2 m2 d2] 50 (0, 0))) ∧ (wr.ownsRow w.heap.size 26 4 (.slice A2 n2 c2) n2 (zs2.flatMap cRecord)) ∧ (wr.ownsRow w.heap.size 3 1 (.slice B2 m2 d2) m2 (ds2.flatMap cI)) ∧ ((A2 : Option Addr).map (·.block) ≠ some q2) ∧ ((A2 : Option Addr).map (·.block) ≠ some q4) ∧ ((A2 : Option Addr).map (·.block) ≠ some q6) ∧ ((A2 : Option Addr).map (·.block) ≠ some q14) ∧ (∀ b, (B2 : Option Addr).map (·.block) = some b → (A2 : Option Addr).map (·.block) ≠ some b) ∧ (∀ b, (A2 : Option Addr).map (·.block) = some b → w.heap.size ≤ b) ∧ ((B2 : Option Addr).map (·.block) ≠ some q2) ∧ ((B2 : Option Addr).map (·.block) ≠ some q4) ∧ ((B2 : Option Addr).map (·.block) ≠ some q6) ∧ ((B2 : Option Addr).map (·.block) ≠ some q14) ∧ (∀ b, (A2 : Option Addr).map (·.block) = some b → (B2 : Option Addr).map (·.block) ≠ some b) ∧ (∀ b, (B2 : Option Addr).map (·.block) = some b → w.heap.size ≤ b) ∧ (zs2.length = n2) ∧ (ds2.length = m2) ∧ (evict room (recSz x) zs.length zs ds = evict room (recSz x) zs2.length zs2 ds2) ∧ (((recSz x : Nat) : Int) ≤ room - ((usedN zs2 : Nat) : Int) + ((lesS x.f1 zs2 : Nat) : Int)) ∧ (∀ z ∈ zs2, Txt z.f3 ∧ z.f3.length ≤ 34) ∧ (n2 ≤ 700) ∧ (m2 + n2 ≤ 70000) ∧ (((usedN zs2 : Nat) : Int) ≤ room)) (fun a _ => 4000 - (intOf (a.eval (.tmp 7))).toNat) (⟨zs, zs.length, ds, ds.length, _, _, _, _, hs, s2, s3, s4, s6, s7, hB, h_q2, h_q4, h_q6, h_q14, o_z12, o_y12, d_z12_q2, d_z12_q4, d_z12_q6, d_z12_q14, m_y12_z12, g_z12, d_y12_q2, d_y12_q4, d_y12_q6, d_y12_q14, m_z12_y12, g_y12, rfl, rfl, rfl, (by omega), (fun z hz => ⟨hT z hz, rec_small hok hz⟩), (by omega), (by omega), hus⟩) ?_
          intro a23 w61 hI
          obtain ⟨zs2, n2, ds2, m2, A2, c2, B2, d2, hs, s2, s3, s4, s6, s7, hB, h_q2, h_q4, h_q6, h_q14, o_z12, o_y12, d_z12_q2, d_z12_q4, d_z12_q6, d_z12_q14, m_y12_z12, g_z12, d_y12_q2, d_y12_q4, d_y12_q6, d_y12_q14, m_z12_y12, g_y12, hn2, hm2, hev, hfit2, hT2, hlz, hld, hus2⟩ := hI
          have mu0 := s7
          refine wp_seq_k fun K62 hK62 => ?_
          refine wp_seq_k fun K63 hK63 => ?_
          refine wp_region_lit ?_
          refine q_val rfl rfl ?_
          refine g_move rfl s7 ?_
          intro a24 p24
          have s75 : a24.eval (.tmp 75) = .int .i64 (room - ((usedN zs2 : Nat) : Int)) := p24.at hs (by decide)
          replace hs := p24.st hs
          refine q_val rfl rfl ?_
          refine g_loadB rfl ((p24.ne rfl).trans s3) Try.isAgg26 Try.sizeOf26 rfl h_q4 ?_
          intro a25 p25
          have s76 : a25.eval (.tmp 76) = .agg #[.int .i64 x.f0, .int .i64 x.f1, .int .i64 x.f2, .string ⟨(x.f3).toArray⟩] := p25.at hs (by decide)
          replace hs := p25.st hs
          refine q_val rfl rfl ?_
          refine g_call rfl rfl Try.call59 (arr1 s76) ?_
          refine (recordSize_at (z := x) _ hTx (by omega)).mono ?_
          rintro e w65 ⟨rfl, hb64⟩
          refine ⟨_, rfl, ?_⟩
          replace h_q2 := keep_below h_q2 hb64
          replace h_q4 := keep_below h_q4 hb64
          replace h_q6 := keep_below h_q6 hb64
          replace h_q14 := keep_below h_q14 hb64
          replace o_z12 := own_below o_z12 hb64
          replace o_y12 := own_below o_y12 hb64
          replace hB := hB.trans (hb64.mono hB.size)
          clear hb64
          intro a26 p26
          have s77 : a26.eval (.tmp 77) = .int .i64 ((recSz x : Nat) : Int) := p26.at hs (by decide)
          replace hs := p26.st hs
          refine q_val rfl rfl ?_
          refine g_lss rfl (((p26.ne rfl).trans (p25.ne rfl)).trans s75) s77 ?_
          intro a27 p27
          have s78 : a27.eval (.tmp 78) = .bool (decide (room - ((usedN zs2 : Nat) : Int) < ((recSz x : Nat) : Int))) := p27.at hs (by decide)
          replace hs := p27.st hs
          refine wpList_nil ?_
          replace s2 : a27.eval (.tmp 2) = .pointer (some ⟨q2, 0, none⟩) := ((p27.ne rfl).trans ((p26.ne rfl).trans ((p25.ne rfl).trans (p24.ne rfl)))).trans s2
          replace s3 : a27.eval (.tmp 3) = .pointer (some ⟨q4, 0, none⟩) := ((p27.ne rfl).trans ((p26.ne rfl).trans ((p25.ne rfl).trans (p24.ne rfl)))).trans s3
          replace s4 : a27.eval (.tmp 4) = .pointer (some ⟨q6, 0, none⟩) := ((p27.ne rfl).trans ((p26.ne rfl).trans ((p25.ne rfl).trans (p24.ne rfl)))).trans s4
          replace s6 : a27.eval (.tmp 6) = .pointer (some ⟨q14, 0, none⟩) := ((p27.ne rfl).trans ((p26.ne rfl).trans ((p25.ne rfl).trans (p24.ne rfl)))).trans s6
          replace s7 : a27.eval (.tmp 7) = .int .i64 (room - ((usedN zs2 : Nat) : Int)) := ((p27.ne rfl).trans ((p26.ne rfl).trans ((p25.ne rfl).trans (p24.ne rfl)))).trans s7
          refine hK63 _ _ ?_
          clear hK63
          by_cases hleft : room - ((usedN zs2 : Nat) : Int) < ((recSz x : Nat) : Int)
          · replace s78 := s78.trans (congrArg Value.bool (decide_eq_true hleft))
            replace s78 : a27.eval (.tmp 78) = .bool true := s78
            refine c_true s78 ?_
            refine wp_skip ?_
            refine hK62 _ _ ?_
            clear hK62
            refine wp_block ?_
            refine wp_seq_k fun K66 hK66 => ?_
            have hlp : 0 < lesS x.f1 zs2 := by omega
            obtain ⟨hkl0, hkp0⟩ := least_lesser hlp
            obtain ⟨kk, hkk⟩ : ∃ kk, leastTo zs2 n2 = kk := ⟨_, rfl⟩
            have hkk2 : leastTo zs2 zs2.length = kk := by rw [hn2]; exact hkk
            have hkl : kk < zs2.length := hkk2 ▸ hkl0
            have hkp : zs2[kk].f1 < x.f1 := by simpa only [hkk2] using hkp0
            clear hkl0 hkp0
            have hsm : recSz zs2[kk] ≤ 40 ∧ 6 ≤ recSz zs2[kk] := ⟨by have := (hT2 _ (List.getElem_mem hkl)).2; unfold recSz; omega, recSz_pos _⟩
            have hue0 := usedN_erase hkl
            refine wp_region_lit ?_
            refine q_val rfl rfl ?_
            refine g_field (r := 1) rfl s6 Try.underlying50 rfl (fun w => Try.sizeOf47 w) rfl rfl ?_
            intro a28 p28
            have s79 : a28.eval (.tmp 79) = .pointer (some ⟨q14, 1, none⟩) := p28.at hs (by decide)
            replace hs := p28.st hs
            refine q_val rfl rfl ?_
            refine g_load rfl s79 Try.isAgg47 (box_cell h_q14 rfl) ?_
            intro a29 p29
            have s80 : a29.eval (.tmp 80) = .slice A2 n2 c2 := p29.at hs (by decide)
            replace hs := p29.st hs
            refine q_val rfl rfl ?_
            refine g_call rfl rfl Try.call60 (arr1 s80) ?_
            refine (leastRecord_at (k := kk) _ hn2 (by omega) hkk (Rd.of_own o_z12)).mono ?_
            rintro e w68 ⟨rfl, hb67⟩
            refine ⟨_, rfl, ?_⟩
            replace h_q2 := keep_below h_q2 hb67
            replace h_q4 := keep_below h_q4 hb67
            replace h_q6 := keep_below h_q6 hb67
            replace h_q14 := keep_below h_q14 hb67
            replace o_z12 := own_below o_z12 hb67
            replace o_y12 := own_below o_y12 hb67
            replace hB := hB.trans (hb67.mono hB.size)
            clear hb67
            intro a30 p30
            have s81 : a30.eval (.tmp 81) = .int .i64 ((kk : Nat) : Int) := p30.at hs (by decide)
            replace hs := p30.st hs
            refine q_val rfl rfl ?_
            refine g_assign rfl s81 ?_
            intro a31 p31
            have s11 : a31.eval (.tmp 11) = .int .i64 ((kk : Nat) : Int) := p31.at hs (by decide)
            replace hs := p31.st hs
            refine wpList_nil ?_
            replace s2 : a31.eval (.tmp 2) = .pointer (some ⟨q2, 0, none⟩) := ((p31.ne rfl).trans ((p30.ne rfl).trans ((p29.ne rfl).trans (p28.ne rfl)))).trans s2
            replace s3 : a31.eval (.tmp 3) = .pointer (some ⟨q4, 0, none⟩) := ((p31.ne rfl).trans ((p30.ne rfl).trans ((p29.ne rfl).trans (p28.ne rfl)))).trans s3
            replace s4 : a31.eval (.tmp 4) = .pointer (some ⟨q6, 0, none⟩) := ((p31.ne rfl).trans ((p30.ne rfl).trans ((p29.ne rfl).trans (p28.ne rfl)))).trans s4
            replace s6 : a31.eval (.tmp 6) = .pointer (some ⟨q14, 0, none⟩) := ((p31.ne rfl).trans ((p30.ne rfl).trans ((p29.ne rfl).trans (p28.ne rfl)))).trans s6
            replace s7 : a31.eval (.tmp 7) = .int .i64 (room - ((usedN zs2 : Nat) : Int)) := ((p31.ne rfl).trans ((p30.ne rfl).trans ((p29.ne rfl).trans (p28.ne rfl)))).trans s7
            replace s78 : a31.eval (.tmp 78) = .bool true := ((p31.ne rfl).trans ((p30.ne rfl).trans ((p29.ne rfl).trans (p28.ne rfl)))).trans s78
            refine hK66 _ _ ?_
            clear hK66
            refine wp_seq_k fun K69 hK69 => ?_
            refine wp_region_lit ?_
            refine q_val rfl rfl ?_
            refine g_move rfl s7 ?_
            intro a32 p32
            have s82 : a32.eval (.tmp 82) = .int .i64 (room - ((usedN zs2 : Nat) : Int)) := p32.at hs (by decide)
            replace hs := p32.st hs
            refine q_val rfl rfl ?_
            refine g_field (r := 1) rfl ((p32.ne rfl).trans s6) Try.underlying50 rfl (fun w => Try.sizeOf47 w) rfl rfl ?_
            intro a33 p33
            have s83 : a33.eval (.tmp 83) = .pointer (some ⟨q14, 1, none⟩) := p33.at hs (by decide)
            replace hs := p33.st hs
            refine q_val rfl rfl ?_
            refine g_load rfl s83 Try.isAgg47 (box_cell h_q14 rfl) ?_
            intro a34 p34
            have s84 : a34.eval (.tmp 84) = .slice A2 n2 c2 := p34.at hs (by decide)
            replace hs := p34.st hs
            refine q_val rfl rfl ?_
            refine g_move rfl (((p34.ne rfl).trans ((p33.ne rfl).trans (p32.ne rfl))).trans s11) ?_
            intro a35 p35
            have s85 : a35.eval (.tmp 85) = .int .i64 ((kk : Nat) : Int) := p35.at hs (by decide)
            replace hs := p35.st hs
            obtain ⟨b70, o71, hA72, hl_hc73, hc73⟩ := Rd.get cRecord_len (Rd.of_own o_z12) (Eq.symm hn2) (i := kk) (by omega)
            refine q_val rfl rfl ?_
            refine g_index (r := o71 + kk * 4) (k := kk) rfl (((p35.ne rfl).trans s84).trans (slice_at hA72)) s85 Try.underlying47 (fun w => Try.sizeOf26 w) (by omega) rfl ?_
            intro a36 p36
            have s86 : a36.eval (.tmp 86) = .pointer (some ⟨b70, o71 + kk * 4, none⟩) := p36.at hs (by decide)
            replace hs := p36.st hs
            refine q_val rfl rfl ?_
            refine g_loadA (l := cRecord zs2[kk]) rfl s86 Try.isAgg26 Try.sizeOf26 rfl (fun j u hu => by rw [Nat.add_assoc]; exact hc73 j u (by have := (List.getElem?_eq_some_iff.1 hu).1; exact this) hu) ?_
            intro a37 p37
            have s87 : a37.eval (.tmp 87) = .agg #[.int .i64 (zs2[kk].f0), .int .i64 (zs2[kk].f1), .int .i64 (zs2[kk].f2), .string ⟨(zs2[kk].f3).toArray⟩] := p37.at hs (by decide)
            replace hs := p37.st hs
            refine q_val rfl rfl ?_
            refine g_call rfl rfl Try.call59 (arr1 s87) ?_
            refine (recordSize_at (z := zs2[kk]) _ (hT2 _ (List.getElem_mem hkl)).1 (Nat.le_trans (hT2 _ (List.getElem_mem hkl)).2 (by decide))).mono ?_
            rintro e w75 ⟨rfl, hb74⟩
            refine ⟨_, rfl, ?_⟩
            replace h_q2 := keep_below h_q2 hb74
            replace h_q4 := keep_below h_q4 hb74
            replace h_q6 := keep_below h_q6 hb74
            replace h_q14 := keep_below h_q14 hb74
            replace o_z12 := own_below o_z12 hb74
            replace o_y12 := own_below o_y12 hb74
            replace hB := hB.trans (hb74.mono hB.size)
            clear hb74
            intro a38 p38
            have s88 : a38.eval (.tmp 88) = .int .i64 ((recSz zs2[kk] : Nat) : Int) := p38.at hs (by decide)
            replace hs := p38.st hs
            refine q_val rfl rfl ?_
            refine g_add (r := (room - ((usedN zs2 : Nat) : Int)) + ((recSz zs2[kk] : Nat) : Int)) rfl (((p38.ne rfl).trans ((p37.ne rfl).trans ((p36.ne rfl).trans ((p35.ne rfl).trans ((p34.ne rfl).trans (p33.ne rfl)))))).trans s82) s88 (by omega) (by omega) ?_
            intro a39 p39
            have s89 : a39.eval (.tmp 89) = .int .i64 ((room - ((usedN zs2 : Nat) : Int)) + ((recSz zs2[kk] : Nat) : Int)) := p39.at hs (by decide)
            replace hs := p39.st hs
            refine q_val rfl rfl ?_
            refine g_assign rfl s89 ?_
            intro a40 p40
            have s7 : a40.eval (.tmp 7) = .int .i64 ((room - ((usedN zs2 : Nat) : Int)) + ((recSz zs2[kk] : Nat) : Int)) := p40.at hs (by decide)
            replace hs := p40.st hs
            refine wpList_nil ?_
            replace s2 : a40.eval (.tmp 2) = .pointer (some ⟨q2, 0, none⟩) := ((p40.ne rfl).trans ((p39.ne rfl).trans ((p38.ne rfl).trans ((p37.ne rfl).trans ((p36.ne rfl).trans ((p35.ne rfl).trans ((p34.ne rfl).trans ((p33.ne rfl).trans (p32.ne rfl))))))))).trans s2
            replace s3 : a40.eval (.tmp 3) = .pointer (some ⟨q4, 0, none⟩) := ((p40.ne rfl).trans ((p39.ne rfl).trans ((p38.ne rfl).trans ((p37.ne rfl).trans ((p36.ne rfl).trans ((p35.ne rfl).trans ((p34.ne rfl).trans ((p33.ne rfl).trans (p32.ne rfl))))))))).trans s3
            replace s4 : a40.eval (.tmp 4) = .pointer (some ⟨q6, 0, none⟩) := ((p40.ne rfl).trans ((p39.ne rfl).trans ((p38.ne rfl).trans ((p37.ne rfl).trans ((p36.ne rfl).trans ((p35.ne rfl).trans ((p34.ne rfl).trans ((p33.ne rfl).trans (p32.ne rfl))))))))).trans s4
            replace s6 : a40.eval (.tmp 6) = .pointer (some ⟨q14, 0, none⟩) := ((p40.ne rfl).trans ((p39.ne rfl).trans ((p38.ne rfl).trans ((p37.ne rfl).trans ((p36.ne rfl).trans ((p35.ne rfl).trans ((p34.ne rfl).trans ((p33.ne rfl).trans (p32.ne rfl))))))))).trans s6
            replace s78 : a40.eval (.tmp 78) = .bool true := ((p40.ne rfl).trans ((p39.ne rfl).trans ((p38.ne rfl).trans ((p37.ne rfl).trans ((p36.ne rfl).trans ((p35.ne rfl).trans ((p34.ne rfl).trans ((p33.ne rfl).trans (p32.ne rfl))))))))).trans s78
            replace s11 : a40.eval (.tmp 11) = .int .i64 ((kk : Nat) : Int) := ((p40.ne rfl).trans ((p39.ne rfl).trans ((p38.ne rfl).trans ((p37.ne rfl).trans ((p36.ne rfl).trans ((p35.ne rfl).trans ((p34.ne rfl).trans ((p33.ne rfl).trans (p32.ne rfl))))))))).trans s11
            refine hK69 _ _ ?_
            clear hK69
            refine wp_seq_k fun K76 hK76 => ?_
            obtain ⟨b77, o78, hA79, hl_hc80, hc80⟩ := Rd.get cRecord_len (Rd.of_own o_z12) (Eq.symm hn2) (i := kk) (by omega)
            refine wp_drawn (n := 120) [] [9, 10, 11] [] (fun k_ v_ wx => match k_ with | 0 => v_ = .pointer (some ⟨q14, 2, none⟩) | 1 => v_ = .slice B2 m2 d2 | 2 => v_ = .pointer (some ⟨q14, 1, none⟩) | 3 => v_ = .slice A2 n2 c2 | 4 => v_ = .int .i64 ((kk : Nat) : Int) | 5 => v_ = .pointer (some ⟨b77, o78 + kk * 4, none⟩) | 6 => v_ = .pointer (some ⟨b77, o78 + kk * 4, none⟩) | 7 => v_ = .int .i64 (zs2[kk].f0) | 8 => ∃ q81, v_ = .slice (some ⟨q81, 0, none⟩) 1 1 ∧ w75.heap.size ≤ q81 ∧ wx.heap[q81]? = some (.cells #[.int .i64 (zs2[kk].f0)] 3 (0, 0)) | _ => True) (by kernel_rfl) (by kernel_rfl) (by kernel_rfl) (by kernel_rfl) hs.size ?_ ?_ ?_
            · intro i v wa wb hb hr
              rcases i with _ | _ | _ | _ | _ | _ | _ | _ | _ | _ | _ | _ | i
              · exact hr
              · exact hr
              · exact hr
              · exact hr
              · exact hr
              · exact hr
              · exact hr
              · exact hr
              · obtain ⟨q81, hr, hg, hh⟩ := hr; exact ⟨q81, hr, hg, keep_below hh hb⟩
              · trivial
              · trivial
              · trivial
              · trivial
            · refine d_step rfl rfl ?_ (d_step rfl rfl ?_ (d_step rfl rfl ?_ (d_step rfl rfl ?_ (d_step rfl rfl ?_ (d_step rfl rfl ?_ (d_step rfl rfl ?_ (d_step rfl rfl ?_ (d_step rfl rfl ?_ (d_chain rfl (d_chain rfl (d_chain rfl (d_nil))))))))))))
              · intro xv_ wx ρ hρ hwx hd K hK
                have e6 : ρ (.tmp 6) = .pointer (some ⟨q14, 0, none⟩) := (hρ.inn 6 rfl).trans s6
                refine g_field (r := 2) rfl e6 Try.underlying50 rfl (fun w => Try.sizeOf48 w) rfl rfl ?_
                exact hK _ _ (Below.refl _ _) rfl
              · intro xv_ wx ρ hρ hwx hd K hK
                obtain r0 : xv_ 0 = .pointer (some ⟨q14, 2, none⟩) := hd 0 rfl
                have e90 : ρ (.tmp 90) = .pointer (some ⟨q14, 2, none⟩) := (hρ.out 0 90 rfl (by rw [hs.size]; decide) rfl).trans r0
                have h_q14 := keep_below h_q14 hwx
                refine g_load rfl e90 Try.isAgg48 (box_cell h_q14 rfl) ?_
                exact hK _ _ (Below.refl _ _) rfl
              · intro xv_ wx ρ hρ hwx hd K hK
                have e6 : ρ (.tmp 6) = .pointer (some ⟨q14, 0, none⟩) := (hρ.inn 6 rfl).trans s6
                refine g_field (r := 1) rfl e6 Try.underlying50 rfl (fun w => Try.sizeOf47 w) rfl rfl ?_
                exact hK _ _ (Below.refl _ _) rfl
              · intro xv_ wx ρ hρ hwx hd K hK
                obtain r2 : xv_ 2 = .pointer (some ⟨q14, 1, none⟩) := hd 2 rfl
                have e92 : ρ (.tmp 92) = .pointer (some ⟨q14, 1, none⟩) := (hρ.out 2 92 rfl (by rw [hs.size]; decide) rfl).trans r2
                have h_q14 := keep_below h_q14 hwx
                refine g_load rfl e92 Try.isAgg47 (box_cell h_q14 rfl) ?_
                exact hK _ _ (Below.refl _ _) rfl
              · intro xv_ wx ρ hρ hwx hd K hK
                have e11 : ρ (.tmp 11) = .int .i64 ((kk : Nat) : Int) := (hρ.inn 11 rfl).trans s11
                refine g_move rfl e11 ?_
                exact hK _ _ (Below.refl _ _) rfl
              · intro xv_ wx ρ hρ hwx hd K hK
                obtain r3 : xv_ 3 = .slice A2 n2 c2 := hd 3 rfl
                have e93 : ρ (.tmp 93) = .slice A2 n2 c2 := (hρ.out 3 93 rfl (by rw [hs.size]; decide) rfl).trans r3
                obtain r4 : xv_ 4 = .int .i64 ((kk : Nat) : Int) := hd 4 rfl
                have e94 : ρ (.tmp 94) = .int .i64 ((kk : Nat) : Int) := (hρ.out 4 94 rfl (by rw [hs.size]; decide) rfl).trans r4
                refine g_index (r := o78 + kk * 4) (k := kk) rfl (e93.trans (slice_at hA79)) e94 Try.underlying47 (fun w => Try.sizeOf26 w) (by omega) rfl ?_
                exact hK _ _ (Below.refl _ _) rfl
              · intro xv_ wx ρ hρ hwx hd K hK
                obtain r5 : xv_ 5 = .pointer (some ⟨b77, o78 + kk * 4, none⟩) := hd 5 rfl
                have e95 : ρ (.tmp 95) = .pointer (some ⟨b77, o78 + kk * 4, none⟩) := (hρ.out 5 95 rfl (by rw [hs.size]; decide) rfl).trans r5
                refine g_field (r := o78 + kk * 4) rfl e95 Try.underlying26 rfl (fun w => Try.sizeOf3 w) rfl rfl ?_
                exact hK _ _ (Below.refl _ _) rfl
              · intro xv_ wx ρ hρ hwx hd K hK
                obtain r6 : xv_ 6 = .pointer (some ⟨b77, o78 + kk * 4, none⟩) := hd 6 rfl
                have e96 : ρ (.tmp 96) = .pointer (some ⟨b77, o78 + kk * 4, none⟩) := (hρ.out 6 96 rfl (by rw [hs.size]; decide) rfl).trans r6
                have hc80 := elem_below hc80 hwx hl_hc80
                refine g_load rfl e96 Try.isAgg3 (by first | exact hc80 0 _ (by decide) rfl | (rw [Nat.add_assoc]; exact hc80 0 _ (by decide) rfl)) ?_
                exact hK _ _ (Below.refl _ _) rfl
              · intro xv_ wx ρ hρ hwx hd K hK
                obtain r7 : xv_ 7 = .int .i64 (zs2[kk].f0) := hd 7 rfl
                have e97 : ρ (.tmp 97) = .int .i64 (zs2[kk].f0) := (hρ.out 7 97 rfl (by rw [hs.size]; decide) rfl).trans r7
                refine g_bslice1 (cs := #[.int .i64 (zs2[kk].f0)]) rfl Try.underlying48 Try.sizeOf3 Try.zeroValue3 e97 (by kernel_rfl) rfl (by decide) ?_
                intro q w' N
                exact hK _ _ N.below ⟨q, rfl, Nat.le_trans hwx.size N.lo, N.here⟩
            · intro x0_ w82 hb_w82 hr0
              obtain r0 : x0_ 0 = .pointer (some ⟨q14, 2, none⟩) := hr0 0 (by decide) rfl rfl
              obtain r1 : x0_ 1 = .slice B2 m2 d2 := hr0 1 (by decide) rfl rfl
              obtain r2 : x0_ 2 = .pointer (some ⟨q14, 1, none⟩) := hr0 2 (by decide) rfl rfl
              obtain r3 : x0_ 3 = .slice A2 n2 c2 := hr0 3 (by decide) rfl rfl
              obtain r4 : x0_ 4 = .int .i64 ((kk : Nat) : Int) := hr0 4 (by decide) rfl rfl
              obtain r5 : x0_ 5 = .pointer (some ⟨b77, o78 + kk * 4, none⟩) := hr0 5 (by decide) rfl rfl
              obtain r6 : x0_ 6 = .pointer (some ⟨b77, o78 + kk * 4, none⟩) := hr0 6 (by decide) rfl rfl
              obtain r7 : x0_ 7 = .int .i64 (zs2[kk].f0) := hr0 7 (by decide) rfl rfl
              obtain ⟨q81, r8, g0_q81, h_q81⟩ : ∃ q81, x0_ 8 = .slice (some ⟨q81, 0, none⟩) 1 1 ∧ w75.heap.size ≤ q81 ∧ w82.heap[q81]? = some (.cells #[.int .i64 (zs2[kk].f0)] 3 (0, 0)) := hr0 8 (by decide) rfl rfl
              clear hr0
              have n_q2_q81 : NeB q2 q81 := ⟨fun e => by have := lt_of_block h_q2; omega⟩
              have n_q81_q2 := n_q2_q81.symm
              have n_q4_q81 : NeB q4 q81 := ⟨fun e => by have := lt_of_block h_q4; omega⟩
              have n_q81_q4 := n_q4_q81.symm
              have n_q6_q81 : NeB q6 q81 := ⟨fun e => by have := lt_of_block h_q6; omega⟩
              have n_q81_q6 := n_q6_q81.symm
              have n_q14_q81 : NeB q14 q81 := ⟨fun e => by have := lt_of_block h_q14; omega⟩
              have n_q81_q14 := n_q14_q81.symm
              have d_z12_q81 := own_ne o_z12 (.inr g0_q81)
              have d_y12_q81 := own_ne o_y12 (.inr g0_q81)
              have g_q81 : GeB w.heap.size q81 := ⟨Nat.le_trans hB.size g0_q81⟩
              clear g0_q81
              replace h_q2 := keep_below h_q2 hb_w82
              replace h_q4 := keep_below h_q4 hb_w82
              replace h_q6 := keep_below h_q6 hb_w82
              replace h_q14 := keep_below h_q14 hb_w82
              replace o_z12 := own_below o_z12 hb_w82
              replace o_y12 := own_below o_y12 hb_w82
              replace hB := hB.trans (hb_w82.mono hB.size)
              clear hb_w82
              intro op_ ho_ xv_ ρ hρ qx_ ql_ qk_
              obtain rfl := Option.some.inj ho_
              clear ho_
              have e91 : ρ (.tmp 91) = .slice B2 m2 d2 := (hρ.out 1 91 rfl (by rw [hs.size]; decide) rfl).trans ((qx_ 1 (by decide) rfl rfl).trans r1)
              have e98 : ρ (.tmp 98) = .slice (some ⟨q81, 0, none⟩) 1 1 := (hρ.out 8 98 rfl (by rw [hs.size]; decide) rfl).trans ((qx_ 8 (by decide) rfl rfl).trans r8)
              refine g_append (n' := m2 + 1) (ys := (ds2 ++ ([zs2[kk].f0])).flatMap cI) w.heap.size (.int .i64 0) 1 8 rfl e91 e98 Try.underlying48 infoI64 rfl (by decide) o_y12 (fun h => by cases h) (rd_box (xs := ([zs2[kk].f0]).flatMap cI) h_q81 rfl rfl) (flatI_one _) (by omega) hB.size (by decide) (by omega) (by first | rfl | simp [List.flatMap_append] | (simp [List.flatMap_append, cI]; done)) ?_
              intro A_r83 c_r83 w84 P_r83
              have d_r83_q2 := P_r83.ne d_y12_q2 (lt_of_block h_q2)
              have d_r83_q4 := P_r83.ne d_y12_q4 (lt_of_block h_q4)
              have d_r83_q6 := P_r83.ne d_y12_q6 (lt_of_block h_q6)
              have d_r83_q14 := P_r83.ne d_y12_q14 (lt_of_block h_q14)
              have d_r83_q81 := P_r83.ne d_y12_q81 (lt_of_block h_q81)
              have m_z12_r83 := P_r83.row m_z12_y12 o_z12
              have m_r83_z12 := ne_row_symm m_z12_r83
              have g_r83 := P_r83.ge g_y12 hB.size
              replace h_q2 := keep_grown h_q2 P_r83.grown d_y12_q2
              replace h_q4 := keep_grown h_q4 P_r83.grown d_y12_q4
              replace h_q6 := keep_grown h_q6 P_r83.grown d_y12_q6
              replace h_q14 := keep_grown h_q14 P_r83.grown d_y12_q14
              replace h_q81 := keep_grown h_q81 P_r83.grown d_y12_q81
              replace o_z12 := own_grown o_z12 P_r83.grown m_z12_y12
              replace hB := below_grown hB hB.size P_r83.grown g_y12
              have o_r83 := P_r83.own
              clear P_r83
              clear hρ qx_ ql_ qk_
              clear e91 e98
              intro op_ ho_ xv_ ρ hρ qx_ ql_ qk_
              obtain rfl := Option.some.inj ho_
              clear ho_
              have e6 : ρ (.tmp 6) = .pointer (some ⟨q14, 0, none⟩) := (hρ.inn 6 rfl).trans s6
              refine g_field (r := 2) rfl e6 Try.underlying50 rfl (fun w => Try.sizeOf48 w) rfl rfl ?_
              clear hρ qx_ ql_ qk_
              clear e6
              intro op_ ho_ xv_ ρ hρ qx_ ql_ qk_
              obtain rfl := Option.some.inj ho_
              clear ho_
              have e100 : ρ (.tmp 100) = .pointer (some ⟨q14, 2, none⟩) := (hρ.out 10 100 rfl (by rw [hs.size]; decide) rfl).trans (qk_ (10, _) (by simp))
              have e99 : ρ (.tmp 99) = .slice A_r83 (m2 + 1) c_r83 := (hρ.out 9 99 rfl (by rw [hs.size]; decide) rfl).trans (qk_ (9, _) (by simp))
              refine g_store (cs' := #[.int .i64 room, .slice A2 n2 c2, .slice A_r83 (m2 + 1) c_r83]) rfl e100 e99 Try.sizeOf48 rfl h_q14 (Nat.le_of_ble_eq_true rfl) rfl ?_
              intro w85 W_w85
              replace h_q2 := keep_wrote h_q2 W_w85 n_q14_q2
              replace h_q4 := keep_wrote h_q4 W_w85 n_q14_q4
              replace h_q6 := keep_wrote h_q6 W_w85 n_q14_q6
              replace h_q14 := W_w85.here
              replace h_q81 := keep_wrote h_q81 W_w85 n_q14_q81
              replace o_z12 := own_wrote o_z12 W_w85 d_z12_q14
              replace o_r83 := own_wrote o_r83 W_w85 d_r83_q14
              replace hB := below_wrote hB hB.size W_w85 g_q14.le
              clear W_w85
              clear e100 e99
              clear hρ qx_ ql_ qk_
              intro xv_ a41 hρ hsz hdf qx_ ql_ qk_ qlk_
              replace s2 : a41.eval (.tmp 2) = .pointer (some ⟨q2, 0, none⟩) := (hρ.inn 2 rfl).trans s2
              replace s3 : a41.eval (.tmp 3) = .pointer (some ⟨q4, 0, none⟩) := (hρ.inn 3 rfl).trans s3
              replace s4 : a41.eval (.tmp 4) = .pointer (some ⟨q6, 0, none⟩) := (hρ.inn 4 rfl).trans s4
              replace s6 : a41.eval (.tmp 6) = .pointer (some ⟨q14, 0, none⟩) := (hρ.inn 6 rfl).trans s6
              replace s7 : a41.eval (.tmp 7) = .int .i64 ((room - ((usedN zs2 : Nat) : Int)) + ((recSz zs2[kk] : Nat) : Int)) := (hρ.inn 7 rfl).trans s7
              replace s11 : a41.eval (.tmp 11) = .int .i64 ((kk : Nat) : Int) := (hρ.inn 11 rfl).trans s11
              replace s78 : a41.eval (.tmp 78) = .bool true := (hρ.inn 78 rfl).trans s78
              replace hs : St 120 a41 := ⟨hsz.trans hs.size, hdf.trans hs.nodef⟩
              clear hρ hsz hdf qx_ ql_ qk_ qlk_
              refine hK76 _ _ ?_
              clear hK76
              refine wp_region_lit ?_
              refine q_val rfl rfl ?_
              refine g_field (r := 1) rfl s6 Try.underlying50 rfl (fun w => Try.sizeOf47 w) rfl rfl ?_
              intro a42 p42
              have s101 : a42.eval (.tmp 101) = .pointer (some ⟨q14, 1, none⟩) := p42.at hs (by decide)
              replace hs := p42.st hs
              refine q_val rfl rfl ?_
              refine g_load rfl s101 Try.isAgg47 (box_cell h_q14 rfl) ?_
              intro a43 p43
              have s102 : a43.eval (.tmp 102) = .slice A2 n2 c2 := p43.at hs (by decide)
              replace hs := p43.st hs
              refine q_val rfl rfl ?_
              refine g_move rfl (((p43.ne rfl).trans (p42.ne rfl)).trans s11) ?_
              intro a44 p44
              have s103 : a44.eval (.tmp 103) = .int .i64 ((kk : Nat) : Int) := p44.at hs (by decide)
              replace hs := p44.st hs
              refine q_val rfl rfl ?_
              refine g_move rfl (((p44.ne rfl).trans ((p43.ne rfl).trans (p42.ne rfl))).trans s11) ?_
              intro a45 p45
              have s104 : a45.eval (.tmp 104) = .int .i64 ((kk : Nat) : Int) := p45.at hs (by decide)
              replace hs := p45.st hs
              refine q_val rfl rfl ?_
              refine g_add (r := ((kk + 1 : Nat) : Int)) rfl s104 rfl (by omega) (by omega) ?_
              intro a46 p46
              have s105 : a46.eval (.tmp 105) = .int .i64 ((kk + 1 : Nat) : Int) := p46.at hs (by decide)
              replace hs := p46.st hs
              refine q_val rfl rfl ?_
              refine g_call rfl rfl Try.call61 (arr3 (((p46.ne rfl).trans ((p45.ne rfl).trans (p44.ne rfl))).trans s102) (((p46.ne rfl).trans (p45.ne rfl)).trans s103) s105) ?_
              refine (deleteRecord_any (k := kk) (zs := zs2) _ hn2 (by omega) (by omega) o_z12).mono ?_
              rintro e w86 ⟨rfl, oo86, gg86⟩
              refine ⟨_, rfl, ?_⟩
              replace h_q2 := keep_grown h_q2 gg86 d_z12_q2
              replace h_q4 := keep_grown h_q4 gg86 d_z12_q4
              replace h_q6 := keep_grown h_q6 gg86 d_z12_q6
              replace h_q14 := keep_grown h_q14 gg86 d_z12_q14
              replace h_q81 := keep_grown h_q81 gg86 d_z12_q81
              replace o_r83 := own_grown o_r83 gg86 m_r83_z12
              replace hB := below_grown hB hB.size gg86 g_z12
              replace o_z12 := oo86
              clear gg86
              intro a47 p47
              have s106 : a47.eval (.tmp 106) = .slice A2 (n2 - 1) c2 := p47.at hs (by decide)
              replace hs := p47.st hs
              refine q_val rfl rfl ?_
              refine g_field (r := 1) rfl (((p47.ne rfl).trans ((p46.ne rfl).trans ((p45.ne rfl).trans ((p44.ne rfl).trans ((p43.ne rfl).trans (p42.ne rfl)))))).trans s6) Try.underlying50 rfl (fun w => Try.sizeOf47 w) rfl rfl ?_
              intro a48 p48
              have s107 : a48.eval (.tmp 107) = .pointer (some ⟨q14, 1, none⟩) := p48.at hs (by decide)
              replace hs := p48.st hs
              refine q_eff rfl rfl ?_
              refine g_store (cs' := #[.int .i64 room, .slice A2 (n2 - 1) c2, .slice A_r83 (m2 + 1) c_r83]) rfl s107 ((p48.ne rfl).trans s106) Try.sizeOf47 rfl h_q14 (Nat.le_of_ble_eq_true rfl) rfl ?_
              intro w87 W_w87
              replace h_q2 := keep_wrote h_q2 W_w87 n_q14_q2
              replace h_q4 := keep_wrote h_q4 W_w87 n_q14_q4
              replace h_q6 := keep_wrote h_q6 W_w87 n_q14_q6
              replace h_q14 := W_w87.here
              replace h_q81 := keep_wrote h_q81 W_w87 n_q14_q81
              replace o_z12 := own_wrote o_z12 W_w87 d_z12_q14
              replace o_r83 := own_wrote o_r83 W_w87 d_r83_q14
              replace hB := below_wrote hB hB.size W_w87 g_q14.le
              clear W_w87
              refine wpList_nil ?_
              replace s2 : a48.eval (.tmp 2) = .pointer (some ⟨q2, 0, none⟩) := ((p48.ne rfl).trans ((p47.ne rfl).trans ((p46.ne rfl).trans ((p45.ne rfl).trans ((p44.ne rfl).trans ((p43.ne rfl).trans (p42.ne rfl))))))).trans s2
              replace s3 : a48.eval (.tmp 3) = .pointer (some ⟨q4, 0, none⟩) := ((p48.ne rfl).trans ((p47.ne rfl).trans ((p46.ne rfl).trans ((p45.ne rfl).trans ((p44.ne rfl).trans ((p43.ne rfl).trans (p42.ne rfl))))))).trans s3
              replace s4 : a48.eval (.tmp 4) = .pointer (some ⟨q6, 0, none⟩) := ((p48.ne rfl).trans ((p47.ne rfl).trans ((p46.ne rfl).trans ((p45.ne rfl).trans ((p44.ne rfl).trans ((p43.ne rfl).trans (p42.ne rfl))))))).trans s4
              replace s6 : a48.eval (.tmp 6) = .pointer (some ⟨q14, 0, none⟩) := ((p48.ne rfl).trans ((p47.ne rfl).trans ((p46.ne rfl).trans ((p45.ne rfl).trans ((p44.ne rfl).trans ((p43.ne rfl).trans (p42.ne rfl))))))).trans s6
              replace s7 : a48.eval (.tmp 7) = .int .i64 ((room - ((usedN zs2 : Nat) : Int)) + ((recSz zs2[kk] : Nat) : Int)) := ((p48.ne rfl).trans ((p47.ne rfl).trans ((p46.ne rfl).trans ((p45.ne rfl).trans ((p44.ne rfl).trans ((p43.ne rfl).trans (p42.ne rfl))))))).trans s7
              replace s11 : a48.eval (.tmp 11) = .int .i64 ((kk : Nat) : Int) := ((p48.ne rfl).trans ((p47.ne rfl).trans ((p46.ne rfl).trans ((p45.ne rfl).trans ((p44.ne rfl).trans ((p43.ne rfl).trans (p42.ne rfl))))))).trans s11
              replace s78 : a48.eval (.tmp 78) = .bool true := ((p48.ne rfl).trans ((p47.ne rfl).trans ((p46.ne rfl).trans ((p45.ne rfl).trans ((p44.ne rfl).trans ((p43.ne rfl).trans (p42.ne rfl))))))).trans s78
              have hue := usedN_erase hkl
              have hle3 := lesS_erase hkl hkp
              have o_y12 := o_r83
              have g_y12 := g_r83
              have d_y12_q2 := d_r83_q2
              have d_y12_q4 := d_r83_q4
              have d_y12_q6 := d_r83_q6
              have d_y12_q14 := d_r83_q14
              have m_z12_y12 := m_z12_r83
              have m_y12_z12 := m_r83_z12
              refine show _ ∧ _ from ⟨⟨zs2.eraseIdx kk, n2 - 1, ds2 ++ [zs2[kk].f0], m2 + 1, _, _, _, _, hs, s2, s3, s4, s6, (Eq.trans s7 (congrArg (Value.int .i64) (by omega))), hB, h_q2, h_q4, h_q6, h_q14, o_z12, o_y12, d_z12_q2, d_z12_q4, d_z12_q6, d_z12_q14, m_y12_z12, g_z12, d_y12_q2, d_y12_q4, d_y12_q6, d_y12_q14, m_z12_y12, g_y12, (by rw [List.length_eraseIdx, if_pos hkl]; omega), (by simp [hm2]), (hev.trans (evict_go (by omega) hkl (by rw [hn2]; exact hkk) (by omega))), (by omega), (fun z hz => hT2 z (List.mem_of_mem_eraseIdx hz)), (by omega), (by omega), (by omega)⟩, ?_⟩
              show 4000 - (intOf (a48.eval (.tmp 7))).toNat < 4000 - (intOf (a23.eval (.tmp 7))).toNat
              rw [s7, mu0]
              simp only [intOf]
              omega
          · replace s78 := s78.trans (congrArg Value.bool (decide_eq_false hleft))
            replace s78 : a27.eval (.tmp 78) = .bool false := s78
            refine c_false s78 ?_
            refine wp_exit ?_
            refine hK59 _ _ ?_
            clear hK59
            have hT3 : ∀ z ∈ zs2 ++ [x], Txt z.f3 := by intro z hz; rcases List.mem_append.1 hz with h | h; exact (hT2 z h).1; rw [List.mem_singleton.1 h]; exact hTx
            have hres : kRes room zs ds x = (zs2 ++ [x], ds2) := kRes_fits (by unfold kFits; exact decide_eq_true (by omega)) (hev.trans (evict_stop (by omega) _))
            refine wp_region_lit ?_
            refine q_val rfl rfl ?_
            refine g_field (r := 1) rfl s6 Try.underlying50 rfl (fun w => Try.sizeOf47 w) rfl rfl ?_
            intro a28 p28
            have s108 : a28.eval (.tmp 108) = .pointer (some ⟨q14, 1, none⟩) := p28.at hs (by decide)
            replace hs := p28.st hs
            refine q_val rfl rfl ?_
            refine g_load rfl s108 Try.isAgg47 (box_cell h_q14 rfl) ?_
            intro a29 p29
            have s109 : a29.eval (.tmp 109) = .slice A2 n2 c2 := p29.at hs (by decide)
            replace hs := p29.st hs
            refine q_val rfl rfl ?_
            refine g_loadB rfl (((p29.ne rfl).trans (p28.ne rfl)).trans s3) Try.isAgg26 Try.sizeOf26 rfl h_q4 ?_
            intro a30 p30
            have s110 : a30.eval (.tmp 110) = .agg #[.int .i64 x.f0, .int .i64 x.f1, .int .i64 x.f2, .string ⟨(x.f3).toArray⟩] := p30.at hs (by decide)
            replace hs := p30.st hs
            refine q_val rfl rfl ?_
            refine g_bslice1 (cs := #[.int .i64 x.f0, .int .i64 x.f1, .int .i64 x.f2, .string ⟨(x.f3).toArray⟩]) rfl Try.underlying47 Try.sizeOf26 Try.zeroValue26 s110 (by kernel_rfl) rfl (by decide) ?_
            intro q88 w89 N_q88
            have n_q2_q88 := N_q88.ne ⟨lt_of_block h_q2⟩
            have n_q88_q2 := n_q2_q88.symm
            have n_q4_q88 := N_q88.ne ⟨lt_of_block h_q4⟩
            have n_q88_q4 := n_q4_q88.symm
            have n_q6_q88 := N_q88.ne ⟨lt_of_block h_q6⟩
            have n_q88_q6 := n_q6_q88.symm
            have n_q14_q88 := N_q88.ne ⟨lt_of_block h_q14⟩
            have n_q88_q14 := n_q14_q88.symm
            have d_z12_q88 := own_ne_new o_z12 N_q88
            have d_y12_q88 := own_ne_new o_y12 N_q88
            have g_q88 : GeB w.heap.size q88 := ⟨Nat.le_trans hB.size N_q88.lo⟩
            replace h_q2 := keep_below h_q2 N_q88.below
            replace h_q4 := keep_below h_q4 N_q88.below
            replace h_q6 := keep_below h_q6 N_q88.below
            replace h_q14 := keep_below h_q14 N_q88.below
            replace o_z12 := own_below o_z12 N_q88.below
            replace o_y12 := own_below o_y12 N_q88.below
            replace hB := below_new hB hB.size N_q88
            have h_q88 := N_q88.here
            clear N_q88
            intro a31 p31
            have s111 : a31.eval (.tmp 111) = .slice (some ⟨q88, 0, none⟩) 1 1 := p31.at hs (by decide)
            replace hs := p31.st hs
            refine q_val rfl rfl ?_
            refine g_append (n' := n2 + 1) (ys := (zs2 ++ [x]).flatMap cRecord) w.heap.size (.agg #[.int .i64 0, .int .i64 0, .int .i64 0, .string ⟨#[]⟩]) 4 40 rfl (((p31.ne rfl).trans (p30.ne rfl)).trans s109) s111 Try.underlying47 infoRecord rfl (by decide) o_z12 (fun h => by cases h) (rd_box (xs := ([x]).flatMap cRecord) h_q88 rfl rfl) (flatRecord_one _) (by omega) hB.size (by decide) (by omega) (by first | rfl | simp [List.flatMap_append] | (simp [List.flatMap_append, cRecord]; done)) ?_
            intro A_r90 c_r90 w91 P_r90
            have d_r90_q2 := P_r90.ne d_z12_q2 (lt_of_block h_q2)
            have d_r90_q4 := P_r90.ne d_z12_q4 (lt_of_block h_q4)
            have d_r90_q6 := P_r90.ne d_z12_q6 (lt_of_block h_q6)
            have d_r90_q14 := P_r90.ne d_z12_q14 (lt_of_block h_q14)
            have d_r90_q88 := P_r90.ne d_z12_q88 (lt_of_block h_q88)
            have m_y12_r90 := P_r90.row m_y12_z12 o_y12
            have m_r90_y12 := ne_row_symm m_y12_r90
            have g_r90 := P_r90.ge g_z12 hB.size
            replace h_q2 := keep_grown h_q2 P_r90.grown d_z12_q2
            replace h_q4 := keep_grown h_q4 P_r90.grown d_z12_q4
            replace h_q6 := keep_grown h_q6 P_r90.grown d_z12_q6
            replace h_q14 := keep_grown h_q14 P_r90.grown d_z12_q14
            replace h_q88 := keep_grown h_q88 P_r90.grown d_z12_q88
            replace o_y12 := own_grown o_y12 P_r90.grown m_y12_z12
            replace hB := below_grown hB hB.size P_r90.grown g_z12
            have o_r90 := P_r90.own
            clear P_r90
            intro a32 p32
            have s112 : a32.eval (.tmp 112) = .slice A_r90 (n2 + 1) c_r90 := p32.at hs (by decide)
            replace hs := p32.st hs
            refine q_val rfl rfl ?_
            refine g_field (r := 1) rfl (((p32.ne rfl).trans ((p31.ne rfl).trans ((p30.ne rfl).trans ((p29.ne rfl).trans (p28.ne rfl))))).trans s6) Try.underlying50 rfl (fun w => Try.sizeOf47 w) rfl rfl ?_
            intro a33 p33
            have s113 : a33.eval (.tmp 113) = .pointer (some ⟨q14, 1, none⟩) := p33.at hs (by decide)
            replace hs := p33.st hs
            refine q_eff rfl rfl ?_
            refine g_store (cs' := #[.int .i64 room, .slice A_r90 (n2 + 1) c_r90, .slice B2 m2 d2]) rfl s113 ((p33.ne rfl).trans s112) Try.sizeOf47 rfl h_q14 (Nat.le_of_ble_eq_true rfl) rfl ?_
            intro w92 W_w92
            replace h_q2 := keep_wrote h_q2 W_w92 n_q14_q2
            replace h_q4 := keep_wrote h_q4 W_w92 n_q14_q4
            replace h_q6 := keep_wrote h_q6 W_w92 n_q14_q6
            replace h_q14 := W_w92.here
            replace h_q88 := keep_wrote h_q88 W_w92 n_q14_q88
            replace o_y12 := own_wrote o_y12 W_w92 d_y12_q14
            replace o_r90 := own_wrote o_r90 W_w92 d_r90_q14
            replace hB := below_wrote hB hB.size W_w92 g_q14.le
            clear W_w92
            refine wpList_nil ?_
            replace s2 : a33.eval (.tmp 2) = .pointer (some ⟨q2, 0, none⟩) := ((p33.ne rfl).trans ((p32.ne rfl).trans ((p31.ne rfl).trans ((p30.ne rfl).trans ((p29.ne rfl).trans (p28.ne rfl)))))).trans s2
            replace s4 : a33.eval (.tmp 4) = .pointer (some ⟨q6, 0, none⟩) := ((p33.ne rfl).trans ((p32.ne rfl).trans ((p31.ne rfl).trans ((p30.ne rfl).trans ((p29.ne rfl).trans (p28.ne rfl)))))).trans s4
            replace s6 : a33.eval (.tmp 6) = .pointer (some ⟨q14, 0, none⟩) := ((p33.ne rfl).trans ((p32.ne rfl).trans ((p31.ne rfl).trans ((p30.ne rfl).trans ((p29.ne rfl).trans (p28.ne rfl)))))).trans s6
            refine hK40 _ _ ?_
            clear hK40
            refine wp_seq_k fun K93 hK93 => ?_
            refine wp_seq_k fun K94 hK94 => ?_
            refine wp_region_lit ?_
            refine q_val rfl rfl ?_
            refine g_loadB rfl s6 Try.isAgg50 Try.sizeOf50 rfl h_q14 ?_
            intro a34 p34
            have s114 : a34.eval (.tmp 114) = .agg #[.int .i64 room, .slice A_r90 (n2 + 1) c_r90, .slice B2 m2 d2] := p34.at hs (by decide)
            replace hs := p34.st hs
            refine q_val rfl rfl ?_
            refine g_call rfl rfl Try.call35 (arr1 s114) ?_
            refine (recorderOk_any _ _ _ _ _ _ _ (zs2 ++ [x]) ds2 _ (by simp only [List.length_append, List.length_cons, List.length_nil, List.length_drop, List.length_take] <;> omega) (by omega) hT3 (Rd.of_own o_r90) hm2 (by omega) (Rd.of_own o_y12)).mono ?_
            rintro e w96 ⟨rfl, hb95⟩
            refine ⟨_, rfl, ?_⟩
            replace h_q2 := keep_below h_q2 hb95
            replace h_q4 := keep_below h_q4 hb95
            replace h_q6 := keep_below h_q6 hb95
            replace h_q14 := keep_below h_q14 hb95
            replace h_q88 := keep_below h_q88 hb95
            replace o_y12 := own_below o_y12 hb95
            replace o_r90 := own_below o_r90 hb95
            replace hB := hB.trans (hb95.mono hB.size)
            clear hb95
            intro a35 p35
            have s115 : a35.eval (.tmp 115) = .bool (rcOk room (zs2 ++ [x]) ds2) := p35.at hs (by decide)
            replace hs := p35.st hs
            refine q_val rfl rfl ?_
            refine g_not rfl s115 ?_
            intro a36 p36
            have s116 : a36.eval (.tmp 116) = .bool (!(rcOk room (zs2 ++ [x]) ds2)) := p36.at hs (by decide)
            replace hs := p36.st hs
            refine wpList_nil ?_
            replace s2 : a36.eval (.tmp 2) = .pointer (some ⟨q2, 0, none⟩) := ((p36.ne rfl).trans ((p35.ne rfl).trans (p34.ne rfl))).trans s2
            replace s4 : a36.eval (.tmp 4) = .pointer (some ⟨q6, 0, none⟩) := ((p36.ne rfl).trans ((p35.ne rfl).trans (p34.ne rfl))).trans s4
            replace s6 : a36.eval (.tmp 6) = .pointer (some ⟨q14, 0, none⟩) := ((p36.ne rfl).trans ((p35.ne rfl).trans (p34.ne rfl))).trans s6
            refine hK94 _ _ ?_
            clear hK94
            cases hq : rcOk room (zs2 ++ [x]) ds2
            · replace s116 := s116.trans (congrArg (fun b => Value.bool (!b)) hq)
              replace s116 : a36.eval (.tmp 116) = .bool true := s116
              refine c_true s116 ?_
              refine wp_seq_k fun K97 hK97 => ?_
              refine wp_region_lit ?_
              refine q_val rfl rfl ?_
              refine g_loadB rfl s2 Try.isAgg50 Try.sizeOf50 rfl h_q2 ?_
              intro a37 p37
              have s117 : a37.eval (.tmp 117) = .agg #[.int .i64 room, .slice A zs.length cp, .slice B ds.length dp] := p37.at hs (by decide)
              replace hs := p37.st hs
              refine q_val rfl rfl ?_
              refine g_call rfl rfl Try.call58 (arr1 s117) ?_
              refine (cloneRecorder_any _ _ _ _ _ _ _ zs ds _ rfl (by omega) (hr_z.below hB) rfl (by omega) (hr_d.below hB)).mono ?_
              rintro e w99 ⟨A98, c98, B98, d98, rfl, o_z98, o_y98, hb98⟩
              refine ⟨_, rfl, ?_⟩
              have m_z98_y98 := own_ne_type o_z98 o_y98 (by decide)
              have m_y98_z98 := ne_row_symm m_z98_y98
              have d_z98_q2 := own_ne_box o_z98 (lt_of_block h_q2)
              have d_z98_q4 := own_ne_box o_z98 (lt_of_block h_q4)
              have d_z98_q6 := own_ne_box o_z98 (lt_of_block h_q6)
              have d_z98_q14 := own_ne_box o_z98 (lt_of_block h_q14)
              have d_z98_q88 := own_ne_box o_z98 (lt_of_block h_q88)
              have m_y12_z98 := own_ne_row o_y12 o_z98 (Nat.le_refl _)
              have m_z98_y12 := ne_row_symm m_y12_z98
              have m_r90_z98 := own_ne_row o_r90 o_z98 (Nat.le_refl _)
              have m_z98_r90 := ne_row_symm m_r90_z98
              have g_z98 : ∀ b, (A98 : Option Addr).map (·.block) = some b → w.heap.size ≤ b := fun b h => Nat.le_trans hB.size (own_row o_z98 b h).1
              replace o_z98 := own_base (base := w.heap.size) o_z98 hB.size
              have d_y98_q2 := own_ne_box o_y98 (lt_of_block h_q2)
              have d_y98_q4 := own_ne_box o_y98 (lt_of_block h_q4)
              have d_y98_q6 := own_ne_box o_y98 (lt_of_block h_q6)
              have d_y98_q14 := own_ne_box o_y98 (lt_of_block h_q14)
              have d_y98_q88 := own_ne_box o_y98 (lt_of_block h_q88)
              have m_y12_y98 := own_ne_row o_y12 o_y98 (Nat.le_refl _)
              have m_y98_y12 := ne_row_symm m_y12_y98
              have m_r90_y98 := own_ne_row o_r90 o_y98 (Nat.le_refl _)
              have m_y98_r90 := ne_row_symm m_r90_y98
              have g_y98 : ∀ b, (B98 : Option Addr).map (·.block) = some b → w.heap.size ≤ b := fun b h => Nat.le_trans hB.size (own_row o_y98 b h).1
              replace o_y98 := own_base (base := w.heap.size) o_y98 hB.size
              replace h_q2 := keep_below h_q2 hb98
              replace h_q4 := keep_below h_q4 hb98
              replace h_q6 := keep_below h_q6 hb98
              replace h_q14 := keep_below h_q14 hb98
              replace h_q88 := keep_below h_q88 hb98
              replace o_y12 := own_below o_y12 hb98
              replace o_r90 := own_below o_r90 hb98
              replace hB := hB.trans (hb98.mono hB.size)
              clear hb98
              intro a38 p38
              have s118 : a38.eval (.tmp 118) = .agg #[.int .i64 room, .slice A98 zs.length c98, .slice B98 ds.length d98] := p38.at hs (by decide)
              replace hs := p38.st hs
              refine q_eff rfl rfl ?_
              refine g_storeB rfl (((p38.ne rfl).trans (p37.ne rfl)).trans s4) s118 Try.sizeOf50 rfl rfl h_q6 rfl ?_
              intro w100 W_w100
              replace h_q2 := keep_wrote h_q2 W_w100 n_q6_q2
              replace h_q4 := keep_wrote h_q4 W_w100 n_q6_q4
              replace h_q6 := W_w100.here
              replace h_q14 := keep_wrote h_q14 W_w100 n_q6_q14
              replace h_q88 := keep_wrote h_q88 W_w100 n_q6_q88
              replace o_y12 := own_wrote o_y12 W_w100 d_y12_q6
              replace o_r90 := own_wrote o_r90 W_w100 d_r90_q6
              replace o_z98 := own_wrote o_z98 W_w100 d_z98_q6
              replace o_y98 := own_wrote o_y98 W_w100 d_y98_q6
              replace hB := below_wrote hB hB.size W_w100 g_q6.le
              clear W_w100
              refine wpList_nil ?_
              replace s4 : a38.eval (.tmp 4) = .pointer (some ⟨q6, 0, none⟩) := ((p38.ne rfl).trans (p37.ne rfl)).trans s4
              replace s6 : a38.eval (.tmp 6) = .pointer (some ⟨q14, 0, none⟩) := ((p38.ne rfl).trans (p37.ne rfl)).trans s6
              refine hK97 _ _ ?_
              clear hK97
              refine wp_ret ?_
              try dsimp only [Exit.then, Exit.inBlock]
              refine ret1 hs Try.results34 (res_cell s4 h_q6 Try.isAgg50 Try.sizeOf50 rfl) ?_
              refine ⟨_, rfl, ?_, hB⟩
              rw [keepR_bad hres hq]
              exact ⟨_, _, _, _, _, _, rfl, rfl, rfl, o_z98, o_y98⟩
            · replace s116 := s116.trans (congrArg (fun b => Value.bool (!b)) hq)
              replace s116 : a36.eval (.tmp 116) = .bool false := s116
              refine c_false s116 ?_
              refine wp_skip ?_
              refine hK93 _ _ ?_
              clear hK93
              refine wp_seq_k fun K101 hK101 => ?_
              refine wp_region_lit ?_
              refine q_val rfl rfl ?_
              refine g_loadB rfl s6 Try.isAgg50 Try.sizeOf50 rfl h_q14 ?_
              intro a37 p37
              have s119 : a37.eval (.tmp 119) = .agg #[.int .i64 room, .slice A_r90 (n2 + 1) c_r90, .slice B2 m2 d2] := p37.at hs (by decide)
              replace hs := p37.st hs
              refine q_eff rfl rfl ?_
              refine g_storeB rfl ((p37.ne rfl).trans s4) s119 Try.sizeOf50 rfl rfl h_q6 rfl ?_
              intro w102 W_w102
              replace h_q2 := keep_wrote h_q2 W_w102 n_q6_q2
              replace h_q4 := keep_wrote h_q4 W_w102 n_q6_q4
              replace h_q6 := W_w102.here
              replace h_q14 := keep_wrote h_q14 W_w102 n_q6_q14
              replace h_q88 := keep_wrote h_q88 W_w102 n_q6_q88
              replace o_y12 := own_wrote o_y12 W_w102 d_y12_q6
              replace o_r90 := own_wrote o_r90 W_w102 d_r90_q6
              replace hB := below_wrote hB hB.size W_w102 g_q6.le
              clear W_w102
              refine wpList_nil ?_
              replace s4 : a37.eval (.tmp 4) = .pointer (some ⟨q6, 0, none⟩) := (p37.ne rfl).trans s4
              refine hK101 _ _ ?_
              clear hK101
              refine wp_ret ?_
              try dsimp only [Exit.then, Exit.inBlock]
              refine ret1 hs Try.results34 (res_cell s4 h_q6 Try.isAgg50 Try.sizeOf50 rfl) ?_
              refine ⟨_, rfl, ?_, hB⟩
              rw [keepR_yes hkok hres hq]
              exact ⟨_, _, _, _, _, _, rfl, (by simp only [List.length_append, List.length_cons, List.length_nil, List.length_drop, List.length_take] <;> omega), hm2, o_r90, o_y12⟩
  clear hK9
  refine wp_seq_k fun K103 hK103 => ?_
  cases hok : rcOk room zs ds
  · refine wp_drawn (n := 120) [] [] [] (fun k_ v_ _wx => match k_ with | 0 => v_ = .agg #[.int .i64 room, .slice A zs.length cp, .slice B ds.length dp] | 1 => v_ = .bool false | 2 => v_ = .bool true | 3 => v_ = .bool true | 7 => v_ = .bool true | 8 => v_ = .bool true | 11 => v_ = undef | 23 => v_ = .bool true | _ => True) (by kernel_rfl) (by kernel_rfl) (by kernel_rfl) (by kernel_rfl) hs.size ?_ ?_ ?_
    · intro i v wa wb hb hr
      rcases i with _ | _ | _ | _ | _ | _ | _ | _ | _ | _ | _ | _ | _ | _ | _ | _ | _ | _ | _ | _ | _ | _ | _ | _ | i
      · exact hr
      · exact hr
      · exact hr
      · exact hr
      · trivial
      · trivial
      · trivial
      · exact hr
      · exact hr
      · trivial
      · trivial
      · exact hr
      · trivial
      · trivial
      · trivial
      · trivial
      · trivial
      · trivial
      · trivial
      · trivial
      · trivial
      · trivial
      · trivial
      · exact hr
      · trivial
    · refine d_step rfl rfl ?_ (d_step rfl rfl ?_ (d_step rfl rfl ?_ (d_step rfl rfl ?_ (d_skip 3 false 18 rfl rfl rfl (fun v w h => Or.inl h) (fun w => trivial) (d_skip 3 false 18 rfl rfl rfl (fun v w h => Or.inl h) (fun w => trivial) (d_skip 3 false 18 rfl rfl rfl (fun v w h => Or.inl h) (fun w => trivial) (d_step rfl rfl ?_ (d_step rfl rfl ?_ (d_skip 8 false 23 rfl rfl rfl (fun v w h => Or.inl h) (fun w => trivial) (d_skip 8 false 23 rfl rfl rfl (fun v w h => Or.inl h) (fun w => trivial) (d_skip 8 false 23 rfl rfl rfl (fun v w h => Or.inl h) (fun w => rfl) (d_skip 11 true 26 rfl rfl rfl (fun v w h => Or.inr h) (fun w => trivial) (d_skip 11 true 26 rfl rfl rfl (fun v w h => Or.inr h) (fun w => trivial) (d_skip 11 true 26 rfl rfl rfl (fun v w h => Or.inr h) (fun w => trivial) (d_skip 11 true 26 rfl rfl rfl (fun v w h => Or.inr h) (fun w => trivial) (d_skip 11 true 26 rfl rfl rfl (fun v w h => Or.inr h) (fun w => trivial) (d_skip 11 true 26 rfl rfl rfl (fun v w h => Or.inr h) (fun w => trivial) (d_skip 11 true 26 rfl rfl rfl (fun v w h => Or.inr h) (fun w => trivial) (d_skip 11 true 26 rfl rfl rfl (fun v w h => Or.inr h) (fun w => trivial) (d_skip 11 true 26 rfl rfl rfl (fun v w h => Or.inr h) (fun w => trivial) (d_skip 11 true 26 rfl rfl rfl (fun v w h => Or.inr h) (fun w => trivial) (d_skip 8 false 23 rfl rfl rfl (fun v w h => Or.inl h) (fun w => trivial) (d_step rfl rfl ?_ (d_nil))))))))))))))))))))))))
      · intro xv_ wx ρ hρ hwx hd K hK
        have e2 : ρ (.tmp 2) = .pointer (some ⟨q2, 0, none⟩) := (hρ.inn 2 rfl).trans s2
        have h_q2 := keep_below h_q2 hwx
        refine g_loadB rfl e2 Try.isAgg50 Try.sizeOf50 rfl h_q2 ?_
        exact hK _ _ (Below.refl _ _) rfl
      · intro xv_ wx ρ hρ hwx hd K hK
        obtain r0 : xv_ 0 = .agg #[.int .i64 room, .slice A zs.length cp, .slice B ds.length dp] := hd 0 rfl
        have e15 : ρ (.tmp 15) = .agg #[.int .i64 room, .slice A zs.length cp, .slice B ds.length dp] := (hρ.out 0 15 rfl (by rw [hs.size]; decide) rfl).trans r0
        refine g_call rfl (hρ.fn _) Try.call35 (arr1 e15) ?_
        refine (recorderOk_any _ _ _ _ _ _ _ zs ds _ rfl (by omega) hT ((hr_z.below hB).below hwx) rfl (by omega) ((hr_d.below hB).below hwx)).mono ?_
        rintro e wy ⟨rfl, hb105⟩
        exact ⟨_, rfl, hK _ _ hb105 (congrArg Value.bool hok)⟩
      · intro xv_ wx ρ hρ hwx hd K hK
        obtain r1 : xv_ 1 = .bool false := hd 1 rfl
        have e16 : ρ (.tmp 16) = .bool false := (hρ.out 1 16 rfl (by rw [hs.size]; decide) rfl).trans r1
        refine g_not rfl e16 ?_
        exact hK _ _ (Below.refl _ _) rfl
      · intro xv_ wx ρ hρ hwx hd K hK
        obtain r2 : xv_ 2 = .bool true := hd 2 rfl
        have e17 : ρ (.tmp 17) = .bool true := (hρ.out 2 17 rfl (by rw [hs.size]; decide) rfl).trans r2
        refine g_move rfl e17 ?_
        exact hK _ _ (Below.refl _ _) rfl
      · intro xv_ wx ρ hρ hwx hd K hK
        obtain r3 : xv_ 3 = .bool true := hd 3 rfl
        have e18 : ρ (.tmp 18) = .bool true := (hρ.out 3 18 rfl (by rw [hs.size]; decide) rfl).trans r3
        refine g_pick_t rfl e18 ((hρ.cst _)) ?_
        exact hK _ _ (Below.refl _ _) rfl
      · intro xv_ wx ρ hρ hwx hd K hK
        obtain r7 : xv_ 7 = .bool true := hd 7 rfl
        have e22 : ρ (.tmp 22) = .bool true := (hρ.out 7 22 rfl (by rw [hs.size]; decide) rfl).trans r7
        refine g_move rfl e22 ?_
        exact hK _ _ (Below.refl _ _) rfl
      · intro xv_ wx ρ hρ hwx hd K hK
        obtain r8 : xv_ 8 = .bool true := hd 8 rfl
        have e23 : ρ (.tmp 23) = .bool true := (hρ.out 8 23 rfl (by rw [hs.size]; decide) rfl).trans r8
        refine g_pick_t rfl e23 ((hρ.cst _)) ?_
        exact hK _ _ (Below.refl _ _) rfl
    · intro x0_ w106 hb_w106 hr0
      obtain r0 : x0_ 0 = .agg #[.int .i64 room, .slice A zs.length cp, .slice B ds.length dp] := hr0 0 (by decide) rfl rfl
      obtain r1 : x0_ 1 = .bool false := hr0 1 (by decide) rfl rfl
      obtain r2 : x0_ 2 = .bool true := hr0 2 (by decide) rfl rfl
      obtain r3 : x0_ 3 = .bool true := hr0 3 (by decide) rfl rfl
      obtain r7 : x0_ 7 = .bool true := hr0 7 (by decide) rfl rfl
      obtain r8 : x0_ 8 = .bool true := hr0 8 (by decide) rfl rfl
      obtain r23 : x0_ 23 = .bool true := hr0 23 (by decide) rfl rfl
      clear hr0
      replace h_q2 := keep_below h_q2 hb_w106
      replace h_q4 := keep_below h_q4 hb_w106
      replace h_q6 := keep_below h_q6 hb_w106
      replace hB := hB.trans (hb_w106.mono hB.size)
      clear hb_w106
      intro xv_ a8 hρ hsz hdf qx_ ql_ qk_ qlk_
      replace s2 : a8.eval (.tmp 2) = .pointer (some ⟨q2, 0, none⟩) := (hρ.inn 2 rfl).trans s2
      replace s3 : a8.eval (.tmp 3) = .pointer (some ⟨q4, 0, none⟩) := (hρ.inn 3 rfl).trans s3
      replace s4 : a8.eval (.tmp 4) = .pointer (some ⟨q6, 0, none⟩) := (hρ.inn 4 rfl).trans s4
      have s38 : a8.eval (.tmp 38) = .bool true := (hρ.out 23 38 rfl (by rw [hs.size]; decide)).trans ((qx_ 23 (by decide) rfl rfl).trans r23)
      replace hs : St 120 a8 := ⟨hsz.trans hs.size, hdf.trans hs.nodef⟩
      clear hρ hsz hdf qx_ ql_ qk_ qlk_
      refine hK103 _ _ ?_
      clear hK103
      refine c_true s38 ?_
      refine wp_seq_k fun K107 hK107 => ?_
      refine wp_region_lit ?_
      refine q_val rfl rfl ?_
      refine g_loadB rfl s2 Try.isAgg50 Try.sizeOf50 rfl h_q2 ?_
      intro a9 p9
      have s39 : a9.eval (.tmp 39) = .agg #[.int .i64 room, .slice A zs.length cp, .slice B ds.length dp] := p9.at hs (by decide)
      replace hs := p9.st hs
      refine q_val rfl rfl ?_
      refine g_call rfl rfl Try.call58 (arr1 s39) ?_
      refine (cloneRecorder_any _ _ _ _ _ _ _ zs ds _ rfl (by omega) (hr_z.below hB) rfl (by omega) (hr_d.below hB)).mono ?_
      rintro e w109 ⟨A108, c108, B108, d108, rfl, o_z108, o_y108, hb108⟩
      refine ⟨_, rfl, ?_⟩
      have m_z108_y108 := own_ne_type o_z108 o_y108 (by decide)
      have m_y108_z108 := ne_row_symm m_z108_y108
      have d_z108_q2 := own_ne_box o_z108 (lt_of_block h_q2)
      have d_z108_q4 := own_ne_box o_z108 (lt_of_block h_q4)
      have d_z108_q6 := own_ne_box o_z108 (lt_of_block h_q6)
      have g_z108 : ∀ b, (A108 : Option Addr).map (·.block) = some b → w.heap.size ≤ b := fun b h => Nat.le_trans hB.size (own_row o_z108 b h).1
      replace o_z108 := own_base (base := w.heap.size) o_z108 hB.size
      have d_y108_q2 := own_ne_box o_y108 (lt_of_block h_q2)
      have d_y108_q4 := own_ne_box o_y108 (lt_of_block h_q4)
      have d_y108_q6 := own_ne_box o_y108 (lt_of_block h_q6)
      have g_y108 : ∀ b, (B108 : Option Addr).map (·.block) = some b → w.heap.size ≤ b := fun b h => Nat.le_trans hB.size (own_row o_y108 b h).1
      replace o_y108 := own_base (base := w.heap.size) o_y108 hB.size
      replace h_q2 := keep_below h_q2 hb108
      replace h_q4 := keep_below h_q4 hb108
      replace h_q6 := keep_below h_q6 hb108
      replace hB := hB.trans (hb108.mono hB.size)
      clear hb108
      intro a10 p10
      have s40 : a10.eval (.tmp 40) = .agg #[.int .i64 room, .slice A108 zs.length c108, .slice B108 ds.length d108] := p10.at hs (by decide)
      replace hs := p10.st hs
      refine q_eff rfl rfl ?_
      refine g_storeB rfl (((p10.ne rfl).trans (p9.ne rfl)).trans s4) s40 Try.sizeOf50 rfl rfl h_q6 rfl ?_
      intro w110 W_w110
      replace h_q2 := keep_wrote h_q2 W_w110 n_q6_q2
      replace h_q4 := keep_wrote h_q4 W_w110 n_q6_q4
      replace h_q6 := W_w110.here
      replace o_z108 := own_wrote o_z108 W_w110 d_z108_q6
      replace o_y108 := own_wrote o_y108 W_w110 d_y108_q6
      replace hB := below_wrote hB hB.size W_w110 g_q6.le
      clear W_w110
      refine wpList_nil ?_
      replace s2 : a10.eval (.tmp 2) = .pointer (some ⟨q2, 0, none⟩) := ((p10.ne rfl).trans (p9.ne rfl)).trans s2
      replace s3 : a10.eval (.tmp 3) = .pointer (some ⟨q4, 0, none⟩) := ((p10.ne rfl).trans (p9.ne rfl)).trans s3
      replace s4 : a10.eval (.tmp 4) = .pointer (some ⟨q6, 0, none⟩) := ((p10.ne rfl).trans (p9.ne rfl)).trans s4
      refine hK107 _ _ ?_
      clear hK107
      refine wp_ret ?_
      try dsimp only [Exit.then, Exit.inBlock]
      refine ret1 hs Try.results34 (res_cell s4 h_q6 Try.isAgg50 Try.sizeOf50 rfl) ?_
      refine ⟨_, rfl, ?_, hB⟩
      rw [keepR_no (by unfold kOk; rw [hok]; rfl)]
      exact ⟨_, _, _, _, _, _, rfl, rfl, rfl, o_z108, o_y108⟩
  · cases hrok : recOk x.f0 x.f1 x.f2 x.f3
    · refine wp_drawn (n := 120) [] [] [] (fun k_ v_ _wx => match k_ with | 0 => v_ = .agg #[.int .i64 room, .slice A zs.length cp, .slice B ds.length dp] | 1 => v_ = .bool true | 2 => v_ = .bool false | 3 => v_ = .bool false | 4 => v_ = .agg #[.int .i64 x.f0, .int .i64 x.f1, .int .i64 x.f2, .string ⟨(x.f3).toArray⟩] | 5 => v_ = .bool false | 6 => v_ = .bool true | 7 => v_ = .bool true | 8 => v_ = .bool true | 11 => v_ = undef | 23 => v_ = .bool true | _ => True) (by kernel_rfl) (by kernel_rfl) (by kernel_rfl) (by kernel_rfl) hs.size ?_ ?_ ?_
      · intro i v wa wb hb hr
        rcases i with _ | _ | _ | _ | _ | _ | _ | _ | _ | _ | _ | _ | _ | _ | _ | _ | _ | _ | _ | _ | _ | _ | _ | _ | i
        · exact hr
        · exact hr
        · exact hr
        · exact hr
        · exact hr
        · exact hr
        · exact hr
        · exact hr
        · exact hr
        · trivial
        · trivial
        · exact hr
        · trivial
        · trivial
        · trivial
        · trivial
        · trivial
        · trivial
        · trivial
        · trivial
        · trivial
        · trivial
        · trivial
        · exact hr
        · trivial
      · refine d_step rfl rfl ?_ (d_step rfl rfl ?_ (d_step rfl rfl ?_ (d_step rfl rfl ?_ (d_take rfl 3 false 18 rfl rfl rfl (fun v w h => h) ?_ (d_take rfl 3 false 18 rfl rfl rfl (fun v w h => h) ?_ (d_take rfl 3 false 18 rfl rfl rfl (fun v w h => h) ?_ (d_step rfl rfl ?_ (d_step rfl rfl ?_ (d_skip 8 false 23 rfl rfl rfl (fun v w h => Or.inl h) (fun w => trivial) (d_skip 8 false 23 rfl rfl rfl (fun v w h => Or.inl h) (fun w => trivial) (d_skip 8 false 23 rfl rfl rfl (fun v w h => Or.inl h) (fun w => rfl) (d_skip 11 true 26 rfl rfl rfl (fun v w h => Or.inr h) (fun w => trivial) (d_skip 11 true 26 rfl rfl rfl (fun v w h => Or.inr h) (fun w => trivial) (d_skip 11 true 26 rfl rfl rfl (fun v w h => Or.inr h) (fun w => trivial) (d_skip 11 true 26 rfl rfl rfl (fun v w h => Or.inr h) (fun w => trivial) (d_skip 11 true 26 rfl rfl rfl (fun v w h => Or.inr h) (fun w => trivial) (d_skip 11 true 26 rfl rfl rfl (fun v w h => Or.inr h) (fun w => trivial) (d_skip 11 true 26 rfl rfl rfl (fun v w h => Or.inr h) (fun w => trivial) (d_skip 11 true 26 rfl rfl rfl (fun v w h => Or.inr h) (fun w => trivial) (d_skip 11 true 26 rfl rfl rfl (fun v w h => Or.inr h) (fun w => trivial) (d_skip 11 true 26 rfl rfl rfl (fun v w h => Or.inr h) (fun w => trivial) (d_skip 8 false 23 rfl rfl rfl (fun v w h => Or.inl h) (fun w => trivial) (d_step rfl rfl ?_ (d_nil))))))))))))))))))))))))
        · intro xv_ wx ρ hρ hwx hd K hK
          have e2 : ρ (.tmp 2) = .pointer (some ⟨q2, 0, none⟩) := (hρ.inn 2 rfl).trans s2
          have h_q2 := keep_below h_q2 hwx
          refine g_loadB rfl e2 Try.isAgg50 Try.sizeOf50 rfl h_q2 ?_
          exact hK _ _ (Below.refl _ _) rfl
        · intro xv_ wx ρ hρ hwx hd K hK
          obtain r0 : xv_ 0 = .agg #[.int .i64 room, .slice A zs.length cp, .slice B ds.length dp] := hd 0 rfl
          have e15 : ρ (.tmp 15) = .agg #[.int .i64 room, .slice A zs.length cp, .slice B ds.length dp] := (hρ.out 0 15 rfl (by rw [hs.size]; decide) rfl).trans r0
          refine g_call rfl (hρ.fn _) Try.call35 (arr1 e15) ?_
          refine (recorderOk_any _ _ _ _ _ _ _ zs ds _ rfl (by omega) hT ((hr_z.below hB).below hwx) rfl (by omega) ((hr_d.below hB).below hwx)).mono ?_
          rintro e wy ⟨rfl, hb113⟩
          exact ⟨_, rfl, hK _ _ hb113 (congrArg Value.bool hok)⟩
        · intro xv_ wx ρ hρ hwx hd K hK
          obtain r1 : xv_ 1 = .bool true := hd 1 rfl
          have e16 : ρ (.tmp 16) = .bool true := (hρ.out 1 16 rfl (by rw [hs.size]; decide) rfl).trans r1
          refine g_not rfl e16 ?_
          exact hK _ _ (Below.refl _ _) rfl
        · intro xv_ wx ρ hρ hwx hd K hK
          obtain r2 : xv_ 2 = .bool false := hd 2 rfl
          have e17 : ρ (.tmp 17) = .bool false := (hρ.out 2 17 rfl (by rw [hs.size]; decide) rfl).trans r2
          refine g_move rfl e17 ?_
          exact hK _ _ (Below.refl _ _) rfl
        · intro xv_ wx ρ hρ hwx hd K hK
          have e3 : ρ (.tmp 3) = .pointer (some ⟨q4, 0, none⟩) := (hρ.inn 3 rfl).trans s3
          have h_q4 := keep_below h_q4 hwx
          refine g_loadB rfl e3 Try.isAgg26 Try.sizeOf26 rfl h_q4 ?_
          exact hK _ _ (Below.refl _ _) rfl
        · intro xv_ wx ρ hρ hwx hd K hK
          obtain r4 : xv_ 4 = .agg #[.int .i64 x.f0, .int .i64 x.f1, .int .i64 x.f2, .string ⟨(x.f3).toArray⟩] := hd 4 rfl
          have e19 : ρ (.tmp 19) = .agg #[.int .i64 x.f0, .int .i64 x.f1, .int .i64 x.f2, .string ⟨(x.f3).toArray⟩] := (hρ.out 4 19 rfl (by rw [hs.size]; decide) rfl).trans r4
          refine g_call rfl (hρ.fn _) Try.call18 (arr1 e19) ?_
          refine (recordOk_any _ _ _ _ _ hTx).mono ?_
          rintro e wy ⟨rfl, hb114⟩
          exact ⟨_, rfl, hK _ _ hb114 (congrArg Value.bool hrok)⟩
        · intro xv_ wx ρ hρ hwx hd K hK
          obtain r5 : xv_ 5 = .bool false := hd 5 rfl
          have e20 : ρ (.tmp 20) = .bool false := (hρ.out 5 20 rfl (by rw [hs.size]; decide) rfl).trans r5
          refine g_not rfl e20 ?_
          exact hK _ _ (Below.refl _ _) rfl
        · intro xv_ wx ρ hρ hwx hd K hK
          obtain r3 : xv_ 3 = .bool false := hd 3 rfl
          have e18 : ρ (.tmp 18) = .bool false := (hρ.out 3 18 rfl (by rw [hs.size]; decide) rfl).trans r3
          obtain r6 : xv_ 6 = .bool true := hd 6 rfl
          have e21 : ρ (.tmp 21) = .bool true := (hρ.out 6 21 rfl (by rw [hs.size]; decide) rfl).trans r6
          refine g_pick_f rfl e18 e21 ?_
          exact hK _ _ (Below.refl _ _) rfl
        · intro xv_ wx ρ hρ hwx hd K hK
          obtain r7 : xv_ 7 = .bool true := hd 7 rfl
          have e22 : ρ (.tmp 22) = .bool true := (hρ.out 7 22 rfl (by rw [hs.size]; decide) rfl).trans r7
          refine g_move rfl e22 ?_
          exact hK _ _ (Below.refl _ _) rfl
        · intro xv_ wx ρ hρ hwx hd K hK
          obtain r8 : xv_ 8 = .bool true := hd 8 rfl
          have e23 : ρ (.tmp 23) = .bool true := (hρ.out 8 23 rfl (by rw [hs.size]; decide) rfl).trans r8
          refine g_pick_t rfl e23 ((hρ.cst _)) ?_
          exact hK _ _ (Below.refl _ _) rfl
      · intro x0_ w115 hb_w115 hr0
        obtain r0 : x0_ 0 = .agg #[.int .i64 room, .slice A zs.length cp, .slice B ds.length dp] := hr0 0 (by decide) rfl rfl
        obtain r1 : x0_ 1 = .bool true := hr0 1 (by decide) rfl rfl
        obtain r2 : x0_ 2 = .bool false := hr0 2 (by decide) rfl rfl
        obtain r3 : x0_ 3 = .bool false := hr0 3 (by decide) rfl rfl
        obtain r4 : x0_ 4 = .agg #[.int .i64 x.f0, .int .i64 x.f1, .int .i64 x.f2, .string ⟨(x.f3).toArray⟩] := hr0 4 (by decide) rfl rfl
        obtain r5 : x0_ 5 = .bool false := hr0 5 (by decide) rfl rfl
        obtain r6 : x0_ 6 = .bool true := hr0 6 (by decide) rfl rfl
        obtain r7 : x0_ 7 = .bool true := hr0 7 (by decide) rfl rfl
        obtain r8 : x0_ 8 = .bool true := hr0 8 (by decide) rfl rfl
        obtain r23 : x0_ 23 = .bool true := hr0 23 (by decide) rfl rfl
        clear hr0
        replace h_q2 := keep_below h_q2 hb_w115
        replace h_q4 := keep_below h_q4 hb_w115
        replace h_q6 := keep_below h_q6 hb_w115
        replace hB := hB.trans (hb_w115.mono hB.size)
        clear hb_w115
        intro xv_ a8 hρ hsz hdf qx_ ql_ qk_ qlk_
        replace s2 : a8.eval (.tmp 2) = .pointer (some ⟨q2, 0, none⟩) := (hρ.inn 2 rfl).trans s2
        replace s3 : a8.eval (.tmp 3) = .pointer (some ⟨q4, 0, none⟩) := (hρ.inn 3 rfl).trans s3
        replace s4 : a8.eval (.tmp 4) = .pointer (some ⟨q6, 0, none⟩) := (hρ.inn 4 rfl).trans s4
        have s38 : a8.eval (.tmp 38) = .bool true := (hρ.out 23 38 rfl (by rw [hs.size]; decide)).trans ((qx_ 23 (by decide) rfl rfl).trans r23)
        replace hs : St 120 a8 := ⟨hsz.trans hs.size, hdf.trans hs.nodef⟩
        clear hρ hsz hdf qx_ ql_ qk_ qlk_
        refine hK103 _ _ ?_
        clear hK103
        refine c_true s38 ?_
        refine wp_seq_k fun K116 hK116 => ?_
        refine wp_region_lit ?_
        refine q_val rfl rfl ?_
        refine g_loadB rfl s2 Try.isAgg50 Try.sizeOf50 rfl h_q2 ?_
        intro a9 p9
        have s39 : a9.eval (.tmp 39) = .agg #[.int .i64 room, .slice A zs.length cp, .slice B ds.length dp] := p9.at hs (by decide)
        replace hs := p9.st hs
        refine q_val rfl rfl ?_
        refine g_call rfl rfl Try.call58 (arr1 s39) ?_
        refine (cloneRecorder_any _ _ _ _ _ _ _ zs ds _ rfl (by omega) (hr_z.below hB) rfl (by omega) (hr_d.below hB)).mono ?_
        rintro e w118 ⟨A117, c117, B117, d117, rfl, o_z117, o_y117, hb117⟩
        refine ⟨_, rfl, ?_⟩
        have m_z117_y117 := own_ne_type o_z117 o_y117 (by decide)
        have m_y117_z117 := ne_row_symm m_z117_y117
        have d_z117_q2 := own_ne_box o_z117 (lt_of_block h_q2)
        have d_z117_q4 := own_ne_box o_z117 (lt_of_block h_q4)
        have d_z117_q6 := own_ne_box o_z117 (lt_of_block h_q6)
        have g_z117 : ∀ b, (A117 : Option Addr).map (·.block) = some b → w.heap.size ≤ b := fun b h => Nat.le_trans hB.size (own_row o_z117 b h).1
        replace o_z117 := own_base (base := w.heap.size) o_z117 hB.size
        have d_y117_q2 := own_ne_box o_y117 (lt_of_block h_q2)
        have d_y117_q4 := own_ne_box o_y117 (lt_of_block h_q4)
        have d_y117_q6 := own_ne_box o_y117 (lt_of_block h_q6)
        have g_y117 : ∀ b, (B117 : Option Addr).map (·.block) = some b → w.heap.size ≤ b := fun b h => Nat.le_trans hB.size (own_row o_y117 b h).1
        replace o_y117 := own_base (base := w.heap.size) o_y117 hB.size
        replace h_q2 := keep_below h_q2 hb117
        replace h_q4 := keep_below h_q4 hb117
        replace h_q6 := keep_below h_q6 hb117
        replace hB := hB.trans (hb117.mono hB.size)
        clear hb117
        intro a10 p10
        have s40 : a10.eval (.tmp 40) = .agg #[.int .i64 room, .slice A117 zs.length c117, .slice B117 ds.length d117] := p10.at hs (by decide)
        replace hs := p10.st hs
        refine q_eff rfl rfl ?_
        refine g_storeB rfl (((p10.ne rfl).trans (p9.ne rfl)).trans s4) s40 Try.sizeOf50 rfl rfl h_q6 rfl ?_
        intro w119 W_w119
        replace h_q2 := keep_wrote h_q2 W_w119 n_q6_q2
        replace h_q4 := keep_wrote h_q4 W_w119 n_q6_q4
        replace h_q6 := W_w119.here
        replace o_z117 := own_wrote o_z117 W_w119 d_z117_q6
        replace o_y117 := own_wrote o_y117 W_w119 d_y117_q6
        replace hB := below_wrote hB hB.size W_w119 g_q6.le
        clear W_w119
        refine wpList_nil ?_
        replace s2 : a10.eval (.tmp 2) = .pointer (some ⟨q2, 0, none⟩) := ((p10.ne rfl).trans (p9.ne rfl)).trans s2
        replace s3 : a10.eval (.tmp 3) = .pointer (some ⟨q4, 0, none⟩) := ((p10.ne rfl).trans (p9.ne rfl)).trans s3
        replace s4 : a10.eval (.tmp 4) = .pointer (some ⟨q6, 0, none⟩) := ((p10.ne rfl).trans (p9.ne rfl)).trans s4
        refine hK116 _ _ ?_
        clear hK116
        refine wp_ret ?_
        try dsimp only [Exit.then, Exit.inBlock]
        refine ret1 hs Try.results34 (res_cell s4 h_q6 Try.isAgg50 Try.sizeOf50 rfl) ?_
        refine ⟨_, rfl, ?_, hB⟩
        rw [keepR_no (by unfold kOk; rw [hok, hrok]; rfl)]
        exact ⟨_, _, _, _, _, _, rfl, rfl, rfl, o_z117, o_y117⟩
    · by_cases hpos : 0 < ((zs.length : Nat) : Int)
      · obtain ⟨b124, o125, hA126, hl_hc127, hc127⟩ := Rd.get cRecord_len (hr_z.below hB) rfl (i := zs.length - 1) (by omega)
        refine wp_drawn (n := 120) [] [] [] (fun k_ v_ _wx => match k_ with | 0 => v_ = .agg #[.int .i64 room, .slice A zs.length cp, .slice B ds.length dp] | 1 => v_ = .bool true | 2 => v_ = .bool false | 3 => v_ = .bool false | 4 => v_ = .agg #[.int .i64 x.f0, .int .i64 x.f1, .int .i64 x.f2, .string ⟨(x.f3).toArray⟩] | 5 => v_ = .bool true | 6 => v_ = .bool false | 7 => v_ = .bool false | 8 => v_ = .bool false | 9 => v_ = .int .i64 ((zs.length : Nat) : Int) | 10 => v_ = .bool true | 11 => v_ = .bool true | 12 => v_ = .pointer (some ⟨q4, 0, none⟩) | 13 => v_ = .int .i64 x.f0 | 14 => v_ = .pointer (some ⟨q2, 1, none⟩) | 15 => v_ = .slice A zs.length cp | 16 => v_ = .int .i64 ((zs.length : Nat) : Int) | 17 => v_ = .int .i64 ((zs.length - 1 : Nat) : Int) | 18 => v_ = .pointer (some ⟨b124, o125 + (zs.length - 1) * 4, none⟩) | 19 => v_ = .pointer (some ⟨b124, o125 + (zs.length - 1) * 4, none⟩) | 20 => v_ = .int .i64 (zs[zs.length - 1].f0) | 21 => v_ = .bool (decide (x.f0 ≤ zs[zs.length - 1].f0)) | 22 => v_ = .bool (decide (x.f0 ≤ zs[zs.length - 1].f0)) | 23 => v_ = .bool (decide (x.f0 ≤ zs[zs.length - 1].f0)) | _ => True) (by kernel_rfl) (by kernel_rfl) (by kernel_rfl) (by kernel_rfl) hs.size ?_ ?_ ?_
        · intro i v wa wb hb hr
          rcases i with _ | _ | _ | _ | _ | _ | _ | _ | _ | _ | _ | _ | _ | _ | _ | _ | _ | _ | _ | _ | _ | _ | _ | _ | i
          · exact hr
          · exact hr
          · exact hr
          · exact hr
          · exact hr
          · exact hr
          · exact hr
          · exact hr
          · exact hr
          · exact hr
          · exact hr
          · exact hr
          · exact hr
          · exact hr
          · exact hr
          · exact hr
          · exact hr
          · exact hr
          · exact hr
          · exact hr
          · exact hr
          · exact hr
          · exact hr
          · exact hr
          · trivial
        · refine d_step rfl rfl ?_ (d_step rfl rfl ?_ (d_step rfl rfl ?_ (d_step rfl rfl ?_ (d_take rfl 3 false 18 rfl rfl rfl (fun v w h => h) ?_ (d_take rfl 3 false 18 rfl rfl rfl (fun v w h => h) ?_ (d_take rfl 3 false 18 rfl rfl rfl (fun v w h => h) ?_ (d_step rfl rfl ?_ (d_step rfl rfl ?_ (d_take rfl 8 false 23 rfl rfl rfl (fun v w h => h) ?_ (d_take rfl 8 false 23 rfl rfl rfl (fun v w h => h) ?_ (d_take rfl 8 false 23 rfl rfl rfl (fun v w h => h) ?_ (d_take rfl 11 true 26 rfl rfl rfl (fun v w h => h) ?_ (d_take rfl 11 true 26 rfl rfl rfl (fun v w h => h) ?_ (d_take rfl 11 true 26 rfl rfl rfl (fun v w h => h) ?_ (d_take rfl 11 true 26 rfl rfl rfl (fun v w h => h) ?_ (d_take rfl 11 true 26 rfl rfl rfl (fun v w h => h) ?_ (d_take rfl 11 true 26 rfl rfl rfl (fun v w h => h) ?_ (d_take rfl 11 true 26 rfl rfl rfl (fun v w h => h) ?_ (d_take rfl 11 true 26 rfl rfl rfl (fun v w h => h) ?_ (d_take rfl 11 true 26 rfl rfl rfl (fun v w h => h) ?_ (d_take rfl 11 true 26 rfl rfl rfl (fun v w h => h) ?_ (d_take rfl 8 false 23 rfl rfl rfl (fun v w h => h) ?_ (d_step rfl rfl ?_ (d_nil))))))))))))))))))))))))
          · intro xv_ wx ρ hρ hwx hd K hK
            have e2 : ρ (.tmp 2) = .pointer (some ⟨q2, 0, none⟩) := (hρ.inn 2 rfl).trans s2
            have h_q2 := keep_below h_q2 hwx
            refine g_loadB rfl e2 Try.isAgg50 Try.sizeOf50 rfl h_q2 ?_
            exact hK _ _ (Below.refl _ _) rfl
          · intro xv_ wx ρ hρ hwx hd K hK
            obtain r0 : xv_ 0 = .agg #[.int .i64 room, .slice A zs.length cp, .slice B ds.length dp] := hd 0 rfl
            have e15 : ρ (.tmp 15) = .agg #[.int .i64 room, .slice A zs.length cp, .slice B ds.length dp] := (hρ.out 0 15 rfl (by rw [hs.size]; decide) rfl).trans r0
            refine g_call rfl (hρ.fn _) Try.call35 (arr1 e15) ?_
            refine (recorderOk_any _ _ _ _ _ _ _ zs ds _ rfl (by omega) hT ((hr_z.below hB).below hwx) rfl (by omega) ((hr_d.below hB).below hwx)).mono ?_
            rintro e wy ⟨rfl, hb122⟩
            exact ⟨_, rfl, hK _ _ hb122 (congrArg Value.bool hok)⟩
          · intro xv_ wx ρ hρ hwx hd K hK
            obtain r1 : xv_ 1 = .bool true := hd 1 rfl
            have e16 : ρ (.tmp 16) = .bool true := (hρ.out 1 16 rfl (by rw [hs.size]; decide) rfl).trans r1
            refine g_not rfl e16 ?_
            exact hK _ _ (Below.refl _ _) rfl
          · intro xv_ wx ρ hρ hwx hd K hK
            obtain r2 : xv_ 2 = .bool false := hd 2 rfl
            have e17 : ρ (.tmp 17) = .bool false := (hρ.out 2 17 rfl (by rw [hs.size]; decide) rfl).trans r2
            refine g_move rfl e17 ?_
            exact hK _ _ (Below.refl _ _) rfl
          · intro xv_ wx ρ hρ hwx hd K hK
            have e3 : ρ (.tmp 3) = .pointer (some ⟨q4, 0, none⟩) := (hρ.inn 3 rfl).trans s3
            have h_q4 := keep_below h_q4 hwx
            refine g_loadB rfl e3 Try.isAgg26 Try.sizeOf26 rfl h_q4 ?_
            exact hK _ _ (Below.refl _ _) rfl
          · intro xv_ wx ρ hρ hwx hd K hK
            obtain r4 : xv_ 4 = .agg #[.int .i64 x.f0, .int .i64 x.f1, .int .i64 x.f2, .string ⟨(x.f3).toArray⟩] := hd 4 rfl
            have e19 : ρ (.tmp 19) = .agg #[.int .i64 x.f0, .int .i64 x.f1, .int .i64 x.f2, .string ⟨(x.f3).toArray⟩] := (hρ.out 4 19 rfl (by rw [hs.size]; decide) rfl).trans r4
            refine g_call rfl (hρ.fn _) Try.call18 (arr1 e19) ?_
            refine (recordOk_any _ _ _ _ _ hTx).mono ?_
            rintro e wy ⟨rfl, hb123⟩
            exact ⟨_, rfl, hK _ _ hb123 (congrArg Value.bool hrok)⟩
          · intro xv_ wx ρ hρ hwx hd K hK
            obtain r5 : xv_ 5 = .bool true := hd 5 rfl
            have e20 : ρ (.tmp 20) = .bool true := (hρ.out 5 20 rfl (by rw [hs.size]; decide) rfl).trans r5
            refine g_not rfl e20 ?_
            exact hK _ _ (Below.refl _ _) rfl
          · intro xv_ wx ρ hρ hwx hd K hK
            obtain r3 : xv_ 3 = .bool false := hd 3 rfl
            have e18 : ρ (.tmp 18) = .bool false := (hρ.out 3 18 rfl (by rw [hs.size]; decide) rfl).trans r3
            obtain r6 : xv_ 6 = .bool false := hd 6 rfl
            have e21 : ρ (.tmp 21) = .bool false := (hρ.out 6 21 rfl (by rw [hs.size]; decide) rfl).trans r6
            refine g_pick_f rfl e18 e21 ?_
            exact hK _ _ (Below.refl _ _) rfl
          · intro xv_ wx ρ hρ hwx hd K hK
            obtain r7 : xv_ 7 = .bool false := hd 7 rfl
            have e22 : ρ (.tmp 22) = .bool false := (hρ.out 7 22 rfl (by rw [hs.size]; decide) rfl).trans r7
            refine g_move rfl e22 ?_
            exact hK _ _ (Below.refl _ _) rfl
          · intro xv_ wx ρ hρ hwx hd K hK
            have e5 : ρ (.tmp 5) = .int .i64 ((zs.length : Nat) : Int) := (hρ.inn 5 rfl).trans s5
            refine g_move rfl e5 ?_
            exact hK _ _ (Below.refl _ _) rfl
          · intro xv_ wx ρ hρ hwx hd K hK
            obtain r9 : xv_ 9 = .int .i64 ((zs.length : Nat) : Int) := hd 9 rfl
            have e24 : ρ (.tmp 24) = .int .i64 ((zs.length : Nat) : Int) := (hρ.out 9 24 rfl (by rw [hs.size]; decide) rfl).trans r9
            refine g_gtr rfl e24 ((hρ.cst _)) ?_
            exact hK _ _ (Below.refl _ _) (congrArg Value.bool (decide_eq_true hpos))
          · intro xv_ wx ρ hρ hwx hd K hK
            obtain r10 : xv_ 10 = .bool true := hd 10 rfl
            have e25 : ρ (.tmp 25) = .bool true := (hρ.out 10 25 rfl (by rw [hs.size]; decide) rfl).trans r10
            refine g_move rfl e25 ?_
            exact hK _ _ (Below.refl _ _) rfl
          · intro xv_ wx ρ hρ hwx hd K hK
            have e3 : ρ (.tmp 3) = .pointer (some ⟨q4, 0, none⟩) := (hρ.inn 3 rfl).trans s3
            refine g_field (r := 0) rfl e3 Try.underlying26 rfl (fun w => Try.sizeOf3 w) rfl rfl ?_
            exact hK _ _ (Below.refl _ _) rfl
          · intro xv_ wx ρ hρ hwx hd K hK
            obtain r12 : xv_ 12 = .pointer (some ⟨q4, 0, none⟩) := hd 12 rfl
            have e27 : ρ (.tmp 27) = .pointer (some ⟨q4, 0, none⟩) := (hρ.out 12 27 rfl (by rw [hs.size]; decide) rfl).trans r12
            have h_q4 := keep_below h_q4 hwx
            refine g_load rfl e27 Try.isAgg3 (box_cell h_q4 rfl) ?_
            exact hK _ _ (Below.refl _ _) rfl
          · intro xv_ wx ρ hρ hwx hd K hK
            have e2 : ρ (.tmp 2) = .pointer (some ⟨q2, 0, none⟩) := (hρ.inn 2 rfl).trans s2
            refine g_field (r := 1) rfl e2 Try.underlying50 rfl (fun w => Try.sizeOf47 w) rfl rfl ?_
            exact hK _ _ (Below.refl _ _) rfl
          · intro xv_ wx ρ hρ hwx hd K hK
            obtain r14 : xv_ 14 = .pointer (some ⟨q2, 1, none⟩) := hd 14 rfl
            have e29 : ρ (.tmp 29) = .pointer (some ⟨q2, 1, none⟩) := (hρ.out 14 29 rfl (by rw [hs.size]; decide) rfl).trans r14
            have h_q2 := keep_below h_q2 hwx
            refine g_load rfl e29 Try.isAgg47 (box_cell h_q2 rfl) ?_
            exact hK _ _ (Below.refl _ _) rfl
          · intro xv_ wx ρ hρ hwx hd K hK
            have e5 : ρ (.tmp 5) = .int .i64 ((zs.length : Nat) : Int) := (hρ.inn 5 rfl).trans s5
            refine g_move rfl e5 ?_
            exact hK _ _ (Below.refl _ _) rfl
          · intro xv_ wx ρ hρ hwx hd K hK
            obtain r16 : xv_ 16 = .int .i64 ((zs.length : Nat) : Int) := hd 16 rfl
            have e31 : ρ (.tmp 31) = .int .i64 ((zs.length : Nat) : Int) := (hρ.out 16 31 rfl (by rw [hs.size]; decide) rfl).trans r16
            refine g_sub (r := ((zs.length - 1 : Nat) : Int)) rfl e31 ((hρ.cst _)) (by omega) (by omega) ?_
            exact hK _ _ (Below.refl _ _) rfl
          · intro xv_ wx ρ hρ hwx hd K hK
            obtain r15 : xv_ 15 = .slice A zs.length cp := hd 15 rfl
            have e30 : ρ (.tmp 30) = .slice A zs.length cp := (hρ.out 15 30 rfl (by rw [hs.size]; decide) rfl).trans r15
            obtain r17 : xv_ 17 = .int .i64 ((zs.length - 1 : Nat) : Int) := hd 17 rfl
            have e32 : ρ (.tmp 32) = .int .i64 ((zs.length - 1 : Nat) : Int) := (hρ.out 17 32 rfl (by rw [hs.size]; decide) rfl).trans r17
            refine g_index (r := o125 + (zs.length - 1) * 4) (k := zs.length - 1) rfl (e30.trans (slice_at hA126)) e32 Try.underlying47 (fun w => Try.sizeOf26 w) (by omega) rfl ?_
            exact hK _ _ (Below.refl _ _) rfl
          · intro xv_ wx ρ hρ hwx hd K hK
            obtain r18 : xv_ 18 = .pointer (some ⟨b124, o125 + (zs.length - 1) * 4, none⟩) := hd 18 rfl
            have e33 : ρ (.tmp 33) = .pointer (some ⟨b124, o125 + (zs.length - 1) * 4, none⟩) := (hρ.out 18 33 rfl (by rw [hs.size]; decide) rfl).trans r18
            refine g_field (r := o125 + (zs.length - 1) * 4) rfl e33 Try.underlying26 rfl (fun w => Try.sizeOf3 w) rfl rfl ?_
            exact hK _ _ (Below.refl _ _) rfl
          · intro xv_ wx ρ hρ hwx hd K hK
            obtain r19 : xv_ 19 = .pointer (some ⟨b124, o125 + (zs.length - 1) * 4, none⟩) := hd 19 rfl
            have e34 : ρ (.tmp 34) = .pointer (some ⟨b124, o125 + (zs.length - 1) * 4, none⟩) := (hρ.out 19 34 rfl (by rw [hs.size]; decide) rfl).trans r19
            have hc127 := elem_below hc127 hwx hl_hc127
            refine g_load rfl e34 Try.isAgg3 (by first | exact hc127 0 _ (by decide) rfl | (rw [Nat.add_assoc]; exact hc127 0 _ (by decide) rfl)) ?_
            exact hK _ _ (Below.refl _ _) rfl
          · intro xv_ wx ρ hρ hwx hd K hK
            obtain r13 : xv_ 13 = .int .i64 x.f0 := hd 13 rfl
            have e28 : ρ (.tmp 28) = .int .i64 x.f0 := (hρ.out 13 28 rfl (by rw [hs.size]; decide) rfl).trans r13
            obtain r20 : xv_ 20 = .int .i64 (zs[zs.length - 1].f0) := hd 20 rfl
            have e35 : ρ (.tmp 35) = .int .i64 (zs[zs.length - 1].f0) := (hρ.out 20 35 rfl (by rw [hs.size]; decide) rfl).trans r20
            refine g_leq rfl e28 e35 ?_
            exact hK _ _ (Below.refl _ _) rfl
          · intro xv_ wx ρ hρ hwx hd K hK
            obtain r11 : xv_ 11 = .bool true := hd 11 rfl
            have e26 : ρ (.tmp 26) = .bool true := (hρ.out 11 26 rfl (by rw [hs.size]; decide) rfl).trans r11
            obtain r21 : xv_ 21 = .bool (decide (x.f0 ≤ zs[zs.length - 1].f0)) := hd 21 rfl
            have e36 : ρ (.tmp 36) = .bool (decide (x.f0 ≤ zs[zs.length - 1].f0)) := (hρ.out 21 36 rfl (by rw [hs.size]; decide) rfl).trans r21
            refine g_pick_t rfl e26 e36 ?_
            exact hK _ _ (Below.refl _ _) rfl
          · intro xv_ wx ρ hρ hwx hd K hK
            obtain r8 : xv_ 8 = .bool false := hd 8 rfl
            have e23 : ρ (.tmp 23) = .bool false := (hρ.out 8 23 rfl (by rw [hs.size]; decide) rfl).trans r8
            obtain r22 : xv_ 22 = .bool (decide (x.f0 ≤ zs[zs.length - 1].f0)) := hd 22 rfl
            have e37 : ρ (.tmp 37) = .bool (decide (x.f0 ≤ zs[zs.length - 1].f0)) := (hρ.out 22 37 rfl (by rw [hs.size]; decide) rfl).trans r22
            refine g_pick_f rfl e23 e37 ?_
            exact hK _ _ (Below.refl _ _) rfl
        · intro x0_ w128 hb_w128 hr0
          obtain r0 : x0_ 0 = .agg #[.int .i64 room, .slice A zs.length cp, .slice B ds.length dp] := hr0 0 (by decide) rfl rfl
          obtain r1 : x0_ 1 = .bool true := hr0 1 (by decide) rfl rfl
          obtain r2 : x0_ 2 = .bool false := hr0 2 (by decide) rfl rfl
          obtain r3 : x0_ 3 = .bool false := hr0 3 (by decide) rfl rfl
          obtain r4 : x0_ 4 = .agg #[.int .i64 x.f0, .int .i64 x.f1, .int .i64 x.f2, .string ⟨(x.f3).toArray⟩] := hr0 4 (by decide) rfl rfl
          obtain r5 : x0_ 5 = .bool true := hr0 5 (by decide) rfl rfl
          obtain r6 : x0_ 6 = .bool false := hr0 6 (by decide) rfl rfl
          obtain r7 : x0_ 7 = .bool false := hr0 7 (by decide) rfl rfl
          obtain r8 : x0_ 8 = .bool false := hr0 8 (by decide) rfl rfl
          obtain r9 : x0_ 9 = .int .i64 ((zs.length : Nat) : Int) := hr0 9 (by decide) rfl rfl
          obtain r10 : x0_ 10 = .bool true := hr0 10 (by decide) rfl rfl
          obtain r11 : x0_ 11 = .bool true := hr0 11 (by decide) rfl rfl
          obtain r12 : x0_ 12 = .pointer (some ⟨q4, 0, none⟩) := hr0 12 (by decide) rfl rfl
          obtain r13 : x0_ 13 = .int .i64 x.f0 := hr0 13 (by decide) rfl rfl
          obtain r14 : x0_ 14 = .pointer (some ⟨q2, 1, none⟩) := hr0 14 (by decide) rfl rfl
          obtain r15 : x0_ 15 = .slice A zs.length cp := hr0 15 (by decide) rfl rfl
          obtain r16 : x0_ 16 = .int .i64 ((zs.length : Nat) : Int) := hr0 16 (by decide) rfl rfl
          obtain r17 : x0_ 17 = .int .i64 ((zs.length - 1 : Nat) : Int) := hr0 17 (by decide) rfl rfl
          obtain r18 : x0_ 18 = .pointer (some ⟨b124, o125 + (zs.length - 1) * 4, none⟩) := hr0 18 (by decide) rfl rfl
          obtain r19 : x0_ 19 = .pointer (some ⟨b124, o125 + (zs.length - 1) * 4, none⟩) := hr0 19 (by decide) rfl rfl
          obtain r20 : x0_ 20 = .int .i64 (zs[zs.length - 1].f0) := hr0 20 (by decide) rfl rfl
          obtain r21 : x0_ 21 = .bool (decide (x.f0 ≤ zs[zs.length - 1].f0)) := hr0 21 (by decide) rfl rfl
          obtain r22 : x0_ 22 = .bool (decide (x.f0 ≤ zs[zs.length - 1].f0)) := hr0 22 (by decide) rfl rfl
          obtain r23 : x0_ 23 = .bool (decide (x.f0 ≤ zs[zs.length - 1].f0)) := hr0 23 (by decide) rfl rfl
          clear hr0
          replace h_q2 := keep_below h_q2 hb_w128
          replace h_q4 := keep_below h_q4 hb_w128
          replace h_q6 := keep_below h_q6 hb_w128
          replace hB := hB.trans (hb_w128.mono hB.size)
          clear hb_w128
          intro xv_ a8 hρ hsz hdf qx_ ql_ qk_ qlk_
          replace s2 : a8.eval (.tmp 2) = .pointer (some ⟨q2, 0, none⟩) := (hρ.inn 2 rfl).trans s2
          replace s3 : a8.eval (.tmp 3) = .pointer (some ⟨q4, 0, none⟩) := (hρ.inn 3 rfl).trans s3
          replace s4 : a8.eval (.tmp 4) = .pointer (some ⟨q6, 0, none⟩) := (hρ.inn 4 rfl).trans s4
          have s38 : a8.eval (.tmp 38) = .bool (decide (x.f0 ≤ zs[zs.length - 1].f0)) := (hρ.out 23 38 rfl (by rw [hs.size]; decide)).trans ((qx_ 23 (by decide) rfl rfl).trans r23)
          replace hs : St 120 a8 := ⟨hsz.trans hs.size, hdf.trans hs.nodef⟩
          clear hρ hsz hdf qx_ ql_ qk_ qlk_
          refine hK103 _ _ ?_
          clear hK103
          by_cases hlast : x.f0 ≤ zs[zs.length - 1].f0
          · replace s38 := s38.trans (congrArg Value.bool (decide_eq_true hlast))
            replace s38 : a8.eval (.tmp 38) = .bool true := s38
            refine c_true s38 ?_
            refine wp_seq_k fun K129 hK129 => ?_
            refine wp_region_lit ?_
            refine q_val rfl rfl ?_
            refine g_loadB rfl s2 Try.isAgg50 Try.sizeOf50 rfl h_q2 ?_
            intro a9 p9
            have s39 : a9.eval (.tmp 39) = .agg #[.int .i64 room, .slice A zs.length cp, .slice B ds.length dp] := p9.at hs (by decide)
            replace hs := p9.st hs
            refine q_val rfl rfl ?_
            refine g_call rfl rfl Try.call58 (arr1 s39) ?_
            refine (cloneRecorder_any _ _ _ _ _ _ _ zs ds _ rfl (by omega) (hr_z.below hB) rfl (by omega) (hr_d.below hB)).mono ?_
            rintro e w131 ⟨A130, c130, B130, d130, rfl, o_z130, o_y130, hb130⟩
            refine ⟨_, rfl, ?_⟩
            have m_z130_y130 := own_ne_type o_z130 o_y130 (by decide)
            have m_y130_z130 := ne_row_symm m_z130_y130
            have d_z130_q2 := own_ne_box o_z130 (lt_of_block h_q2)
            have d_z130_q4 := own_ne_box o_z130 (lt_of_block h_q4)
            have d_z130_q6 := own_ne_box o_z130 (lt_of_block h_q6)
            have g_z130 : ∀ b, (A130 : Option Addr).map (·.block) = some b → w.heap.size ≤ b := fun b h => Nat.le_trans hB.size (own_row o_z130 b h).1
            replace o_z130 := own_base (base := w.heap.size) o_z130 hB.size
            have d_y130_q2 := own_ne_box o_y130 (lt_of_block h_q2)
            have d_y130_q4 := own_ne_box o_y130 (lt_of_block h_q4)
            have d_y130_q6 := own_ne_box o_y130 (lt_of_block h_q6)
            have g_y130 : ∀ b, (B130 : Option Addr).map (·.block) = some b → w.heap.size ≤ b := fun b h => Nat.le_trans hB.size (own_row o_y130 b h).1
            replace o_y130 := own_base (base := w.heap.size) o_y130 hB.size
            replace h_q2 := keep_below h_q2 hb130
            replace h_q4 := keep_below h_q4 hb130
            replace h_q6 := keep_below h_q6 hb130
            replace hB := hB.trans (hb130.mono hB.size)
            clear hb130
            intro a10 p10
            have s40 : a10.eval (.tmp 40) = .agg #[.int .i64 room, .slice A130 zs.length c130, .slice B130 ds.length d130] := p10.at hs (by decide)
            replace hs := p10.st hs
            refine q_eff rfl rfl ?_
            refine g_storeB rfl (((p10.ne rfl).trans (p9.ne rfl)).trans s4) s40 Try.sizeOf50 rfl rfl h_q6 rfl ?_
            intro w132 W_w132
            replace h_q2 := keep_wrote h_q2 W_w132 n_q6_q2
            replace h_q4 := keep_wrote h_q4 W_w132 n_q6_q4
            replace h_q6 := W_w132.here
            replace o_z130 := own_wrote o_z130 W_w132 d_z130_q6
            replace o_y130 := own_wrote o_y130 W_w132 d_y130_q6
            replace hB := below_wrote hB hB.size W_w132 g_q6.le
            clear W_w132
            refine wpList_nil ?_
            replace s2 : a10.eval (.tmp 2) = .pointer (some ⟨q2, 0, none⟩) := ((p10.ne rfl).trans (p9.ne rfl)).trans s2
            replace s3 : a10.eval (.tmp 3) = .pointer (some ⟨q4, 0, none⟩) := ((p10.ne rfl).trans (p9.ne rfl)).trans s3
            replace s4 : a10.eval (.tmp 4) = .pointer (some ⟨q6, 0, none⟩) := ((p10.ne rfl).trans (p9.ne rfl)).trans s4
            refine hK129 _ _ ?_
            clear hK129
            refine wp_ret ?_
            try dsimp only [Exit.then, Exit.inBlock]
            refine ret1 hs Try.results34 (res_cell s4 h_q6 Try.isAgg50 Try.sizeOf50 rfl) ?_
            refine ⟨_, rfl, ?_, hB⟩
            rw [keepR_no (kOk_last (by omega) hlast)]
            exact ⟨_, _, _, _, _, _, rfl, rfl, rfl, o_z130, o_y130⟩
          · replace s38 := s38.trans (congrArg Value.bool (decide_eq_false hlast))
            replace s38 : a8.eval (.tmp 38) = .bool false := s38
            refine c_false s38 ?_
            refine wp_skip ?_
            exact jK9 _ _ ⟨hs, s2, s3, s4, hB, h_q2, h_q4, h_q6, hok, hrok, (kOk_behind hok hrok (by omega) hlast)⟩
      · refine wp_drawn (n := 120) [] [] [] (fun k_ v_ _wx => match k_ with | 0 => v_ = .agg #[.int .i64 room, .slice A zs.length cp, .slice B ds.length dp] | 1 => v_ = .bool true | 2 => v_ = .bool false | 3 => v_ = .bool false | 4 => v_ = .agg #[.int .i64 x.f0, .int .i64 x.f1, .int .i64 x.f2, .string ⟨(x.f3).toArray⟩] | 5 => v_ = .bool true | 6 => v_ = .bool false | 7 => v_ = .bool false | 8 => v_ = .bool false | 9 => v_ = .int .i64 ((zs.length : Nat) : Int) | 10 => v_ = .bool false | 11 => v_ = .bool false | 22 => v_ = .bool false | 23 => v_ = .bool false | _ => True) (by kernel_rfl) (by kernel_rfl) (by kernel_rfl) (by kernel_rfl) hs.size ?_ ?_ ?_
        · intro i v wa wb hb hr
          rcases i with _ | _ | _ | _ | _ | _ | _ | _ | _ | _ | _ | _ | _ | _ | _ | _ | _ | _ | _ | _ | _ | _ | _ | _ | i
          · exact hr
          · exact hr
          · exact hr
          · exact hr
          · exact hr
          · exact hr
          · exact hr
          · exact hr
          · exact hr
          · exact hr
          · exact hr
          · exact hr
          · trivial
          · trivial
          · trivial
          · trivial
          · trivial
          · trivial
          · trivial
          · trivial
          · trivial
          · trivial
          · exact hr
          · exact hr
          · trivial
        · refine d_step rfl rfl ?_ (d_step rfl rfl ?_ (d_step rfl rfl ?_ (d_step rfl rfl ?_ (d_take rfl 3 false 18 rfl rfl rfl (fun v w h => h) ?_ (d_take rfl 3 false 18 rfl rfl rfl (fun v w h => h) ?_ (d_take rfl 3 false 18 rfl rfl rfl (fun v w h => h) ?_ (d_step rfl rfl ?_ (d_step rfl rfl ?_ (d_take rfl 8 false 23 rfl rfl rfl (fun v w h => h) ?_ (d_take rfl 8 false 23 rfl rfl rfl (fun v w h => h) ?_ (d_take rfl 8 false 23 rfl rfl rfl (fun v w h => h) ?_ (d_skip 11 true 26 rfl rfl rfl (fun v w h => Or.inl h) (fun w => trivial) (d_skip 11 true 26 rfl rfl rfl (fun v w h => Or.inl h) (fun w => trivial) (d_skip 11 true 26 rfl rfl rfl (fun v w h => Or.inl h) (fun w => trivial) (d_skip 11 true 26 rfl rfl rfl (fun v w h => Or.inl h) (fun w => trivial) (d_skip 11 true 26 rfl rfl rfl (fun v w h => Or.inl h) (fun w => trivial) (d_skip 11 true 26 rfl rfl rfl (fun v w h => Or.inl h) (fun w => trivial) (d_skip 11 true 26 rfl rfl rfl (fun v w h => Or.inl h) (fun w => trivial) (d_skip 11 true 26 rfl rfl rfl (fun v w h => Or.inl h) (fun w => trivial) (d_skip 11 true 26 rfl rfl rfl (fun v w h => Or.inl h) (fun w => trivial) (d_skip 11 true 26 rfl rfl rfl (fun v w h => Or.inl h) (fun w => trivial) (d_take rfl 8 false 23 rfl rfl rfl (fun v w h => h) ?_ (d_step rfl rfl ?_ (d_nil))))))))))))))))))))))))
          · intro xv_ wx ρ hρ hwx hd K hK
            have e2 : ρ (.tmp 2) = .pointer (some ⟨q2, 0, none⟩) := (hρ.inn 2 rfl).trans s2
            have h_q2 := keep_below h_q2 hwx
            refine g_loadB rfl e2 Try.isAgg50 Try.sizeOf50 rfl h_q2 ?_
            exact hK _ _ (Below.refl _ _) rfl
          · intro xv_ wx ρ hρ hwx hd K hK
            obtain r0 : xv_ 0 = .agg #[.int .i64 room, .slice A zs.length cp, .slice B ds.length dp] := hd 0 rfl
            have e15 : ρ (.tmp 15) = .agg #[.int .i64 room, .slice A zs.length cp, .slice B ds.length dp] := (hρ.out 0 15 rfl (by rw [hs.size]; decide) rfl).trans r0
            refine g_call rfl (hρ.fn _) Try.call35 (arr1 e15) ?_
            refine (recorderOk_any _ _ _ _ _ _ _ zs ds _ rfl (by omega) hT ((hr_z.below hB).below hwx) rfl (by omega) ((hr_d.below hB).below hwx)).mono ?_
            rintro e wy ⟨rfl, hb133⟩
            exact ⟨_, rfl, hK _ _ hb133 (congrArg Value.bool hok)⟩
          · intro xv_ wx ρ hρ hwx hd K hK
            obtain r1 : xv_ 1 = .bool true := hd 1 rfl
            have e16 : ρ (.tmp 16) = .bool true := (hρ.out 1 16 rfl (by rw [hs.size]; decide) rfl).trans r1
            refine g_not rfl e16 ?_
            exact hK _ _ (Below.refl _ _) rfl
          · intro xv_ wx ρ hρ hwx hd K hK
            obtain r2 : xv_ 2 = .bool false := hd 2 rfl
            have e17 : ρ (.tmp 17) = .bool false := (hρ.out 2 17 rfl (by rw [hs.size]; decide) rfl).trans r2
            refine g_move rfl e17 ?_
            exact hK _ _ (Below.refl _ _) rfl
          · intro xv_ wx ρ hρ hwx hd K hK
            have e3 : ρ (.tmp 3) = .pointer (some ⟨q4, 0, none⟩) := (hρ.inn 3 rfl).trans s3
            have h_q4 := keep_below h_q4 hwx
            refine g_loadB rfl e3 Try.isAgg26 Try.sizeOf26 rfl h_q4 ?_
            exact hK _ _ (Below.refl _ _) rfl
          · intro xv_ wx ρ hρ hwx hd K hK
            obtain r4 : xv_ 4 = .agg #[.int .i64 x.f0, .int .i64 x.f1, .int .i64 x.f2, .string ⟨(x.f3).toArray⟩] := hd 4 rfl
            have e19 : ρ (.tmp 19) = .agg #[.int .i64 x.f0, .int .i64 x.f1, .int .i64 x.f2, .string ⟨(x.f3).toArray⟩] := (hρ.out 4 19 rfl (by rw [hs.size]; decide) rfl).trans r4
            refine g_call rfl (hρ.fn _) Try.call18 (arr1 e19) ?_
            refine (recordOk_any _ _ _ _ _ hTx).mono ?_
            rintro e wy ⟨rfl, hb134⟩
            exact ⟨_, rfl, hK _ _ hb134 (congrArg Value.bool hrok)⟩
          · intro xv_ wx ρ hρ hwx hd K hK
            obtain r5 : xv_ 5 = .bool true := hd 5 rfl
            have e20 : ρ (.tmp 20) = .bool true := (hρ.out 5 20 rfl (by rw [hs.size]; decide) rfl).trans r5
            refine g_not rfl e20 ?_
            exact hK _ _ (Below.refl _ _) rfl
          · intro xv_ wx ρ hρ hwx hd K hK
            obtain r3 : xv_ 3 = .bool false := hd 3 rfl
            have e18 : ρ (.tmp 18) = .bool false := (hρ.out 3 18 rfl (by rw [hs.size]; decide) rfl).trans r3
            obtain r6 : xv_ 6 = .bool false := hd 6 rfl
            have e21 : ρ (.tmp 21) = .bool false := (hρ.out 6 21 rfl (by rw [hs.size]; decide) rfl).trans r6
            refine g_pick_f rfl e18 e21 ?_
            exact hK _ _ (Below.refl _ _) rfl
          · intro xv_ wx ρ hρ hwx hd K hK
            obtain r7 : xv_ 7 = .bool false := hd 7 rfl
            have e22 : ρ (.tmp 22) = .bool false := (hρ.out 7 22 rfl (by rw [hs.size]; decide) rfl).trans r7
            refine g_move rfl e22 ?_
            exact hK _ _ (Below.refl _ _) rfl
          · intro xv_ wx ρ hρ hwx hd K hK
            have e5 : ρ (.tmp 5) = .int .i64 ((zs.length : Nat) : Int) := (hρ.inn 5 rfl).trans s5
            refine g_move rfl e5 ?_
            exact hK _ _ (Below.refl _ _) rfl
          · intro xv_ wx ρ hρ hwx hd K hK
            obtain r9 : xv_ 9 = .int .i64 ((zs.length : Nat) : Int) := hd 9 rfl
            have e24 : ρ (.tmp 24) = .int .i64 ((zs.length : Nat) : Int) := (hρ.out 9 24 rfl (by rw [hs.size]; decide) rfl).trans r9
            refine g_gtr rfl e24 ((hρ.cst _)) ?_
            exact hK _ _ (Below.refl _ _) (congrArg Value.bool (decide_eq_false hpos))
          · intro xv_ wx ρ hρ hwx hd K hK
            obtain r10 : xv_ 10 = .bool false := hd 10 rfl
            have e25 : ρ (.tmp 25) = .bool false := (hρ.out 10 25 rfl (by rw [hs.size]; decide) rfl).trans r10
            refine g_move rfl e25 ?_
            exact hK _ _ (Below.refl _ _) rfl
          · intro xv_ wx ρ hρ hwx hd K hK
            obtain r11 : xv_ 11 = .bool false := hd 11 rfl
            have e26 : ρ (.tmp 26) = .bool false := (hρ.out 11 26 rfl (by rw [hs.size]; decide) rfl).trans r11
            refine g_pick_f rfl e26 ((hρ.cst _)) ?_
            exact hK _ _ (Below.refl _ _) rfl
          · intro xv_ wx ρ hρ hwx hd K hK
            obtain r8 : xv_ 8 = .bool false := hd 8 rfl
            have e23 : ρ (.tmp 23) = .bool false := (hρ.out 8 23 rfl (by rw [hs.size]; decide) rfl).trans r8
            obtain r22 : xv_ 22 = .bool false := hd 22 rfl
            have e37 : ρ (.tmp 37) = .bool false := (hρ.out 22 37 rfl (by rw [hs.size]; decide) rfl).trans r22
            refine g_pick_f rfl e23 e37 ?_
            exact hK _ _ (Below.refl _ _) rfl
        · intro x0_ w135 hb_w135 hr0
          obtain r0 : x0_ 0 = .agg #[.int .i64 room, .slice A zs.length cp, .slice B ds.length dp] := hr0 0 (by decide) rfl rfl
          obtain r1 : x0_ 1 = .bool true := hr0 1 (by decide) rfl rfl
          obtain r2 : x0_ 2 = .bool false := hr0 2 (by decide) rfl rfl
          obtain r3 : x0_ 3 = .bool false := hr0 3 (by decide) rfl rfl
          obtain r4 : x0_ 4 = .agg #[.int .i64 x.f0, .int .i64 x.f1, .int .i64 x.f2, .string ⟨(x.f3).toArray⟩] := hr0 4 (by decide) rfl rfl
          obtain r5 : x0_ 5 = .bool true := hr0 5 (by decide) rfl rfl
          obtain r6 : x0_ 6 = .bool false := hr0 6 (by decide) rfl rfl
          obtain r7 : x0_ 7 = .bool false := hr0 7 (by decide) rfl rfl
          obtain r8 : x0_ 8 = .bool false := hr0 8 (by decide) rfl rfl
          obtain r9 : x0_ 9 = .int .i64 ((zs.length : Nat) : Int) := hr0 9 (by decide) rfl rfl
          obtain r10 : x0_ 10 = .bool false := hr0 10 (by decide) rfl rfl
          obtain r11 : x0_ 11 = .bool false := hr0 11 (by decide) rfl rfl
          obtain r22 : x0_ 22 = .bool false := hr0 22 (by decide) rfl rfl
          obtain r23 : x0_ 23 = .bool false := hr0 23 (by decide) rfl rfl
          clear hr0
          replace h_q2 := keep_below h_q2 hb_w135
          replace h_q4 := keep_below h_q4 hb_w135
          replace h_q6 := keep_below h_q6 hb_w135
          replace hB := hB.trans (hb_w135.mono hB.size)
          clear hb_w135
          intro xv_ a8 hρ hsz hdf qx_ ql_ qk_ qlk_
          replace s2 : a8.eval (.tmp 2) = .pointer (some ⟨q2, 0, none⟩) := (hρ.inn 2 rfl).trans s2
          replace s3 : a8.eval (.tmp 3) = .pointer (some ⟨q4, 0, none⟩) := (hρ.inn 3 rfl).trans s3
          replace s4 : a8.eval (.tmp 4) = .pointer (some ⟨q6, 0, none⟩) := (hρ.inn 4 rfl).trans s4
          have s38 : a8.eval (.tmp 38) = .bool false := (hρ.out 23 38 rfl (by rw [hs.size]; decide)).trans ((qx_ 23 (by decide) rfl rfl).trans r23)
          replace hs : St 120 a8 := ⟨hsz.trans hs.size, hdf.trans hs.nodef⟩
          clear hρ hsz hdf qx_ ql_ qk_ qlk_
          refine hK103 _ _ ?_
          clear hK103
          refine c_false s38 ?_
          refine wp_skip ?_
          exact jK9 _ _ ⟨hs, s2, s3, s4, hB, h_q2, h_q4, h_q6, hok, hrok, (kOk_none hok hrok hpos)⟩
end Go.Proofs.Ytnjopeonmenopaa
