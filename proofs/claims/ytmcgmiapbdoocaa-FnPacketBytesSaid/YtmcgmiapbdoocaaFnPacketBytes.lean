/- Packets and frames can be read from their bytes, and frames with one byte changed cannot. No condition. -/
import Derived.Test.YtmcgmiapbdoocaaFrmAt
import Derived.Test.YtmcgmiapbdoocaaFrmSame
namespace Go.Proofs.Ytmcgmiapbdoocaa
open Go.RowKit

def sAt (os : List EPacket) (k : Nat) : Nat := (flatP (os.take k)).length
theorem split_at (os : List EPacket) {k : Nat} (hk : k < os.length) : os = os.take k ++ os[k] :: os.drop (k + 1) := by rw [List.getElem_cons_drop, List.take_append_drop]
theorem sAt_le (os : List EPacket) {k : Nat} (hk : k < os.length) : sAt os k + (4 + os[k].f2.length) ≤ (flatP os).length := by
  have h : (flatP os).length = (flatP (os.take k ++ os[k] :: os.drop (k + 1))).length := by rw [← split_at os hk]
  rw [flatP_append, List.length_append, flatP_cons, List.length_append, pkB_len] at h
  unfold sAt
  omega
theorem sAt_next (os : List EPacket) {k : Nat} (hk : k < os.length) : sAt os (k + 1) = sAt os k + (4 + os[k].f2.length) := by
  unfold sAt
  rw [List.take_succ_eq_append_getElem hk, flatP_append, flatP_one, List.length_append, pkB_len]
  omega
theorem flat_44 {os : List EPacket} (hD : DrawnPks os) (k : Nat) : (flatP (os.take k)).length ≤ 44 * k := by
  induction k with
  | zero => simp [flatP]
  | succ k ih =>
    by_cases hk : k < os.length
    · rw [List.take_succ_eq_append_getElem hk, flatP_append, flatP_one, List.length_append, pkB_len]
      have := (pkOk_parts (hD _ (List.getElem_mem hk)).1).2.2
      omega
    · rw [List.take_of_length_le (by omega)] at ih ⊢
      omega
theorem enc_next {os : List EPacket} {k : Nat} (hk : k < os.length) (hx : pkOk os[k] = true) : flatP (os.take k) ++ pkEnc os[k] = flatP (os.take (k + 1)) := by
  rw [List.take_succ_eq_append_getElem hk, flatP_append, flatP_one, pkEnc_ok hx]
theorem decodePacket_at {os : List EPacket} {k : Nat} (w : World) (hk : k < os.length) (hx : pkOk os[k] = true) (hl : (flatP os).length ≤ 1048576) :
    Calls Try.prog 24 #[.string ⟨(flatP os).toArray⟩, .int .i64 ((sAt os k : Nat) : Int)] w fun e w' => e = .returned (.tuple #[.agg #[.int .i64 os[k].f0, .int .i64 os[k].f1, .string ⟨(os[k].f2).toArray⟩], .int .i64 ((4 + os[k].f2.length : Nat) : Int), .bool true]) ∧ Below w.heap.size w w' := by
  have hs := sAt_le os hk
  have e : dec0 ((flatP os).drop (sAt os k)) = some os[k] := by
    have h : (flatP os).drop (sAt os k) = pkB os[k] ++ flatP (os.drop (k + 1)) := by
      have h1 : flatP os = flatP (os.take k) ++ flatP (os[k] :: os.drop (k + 1)) := by rw [← flatP_append, ← split_at os hk]
      rw [h1]
      unfold sAt
      rw [List.drop_left, flatP_cons]
    rw [h]
    exact dec0_enc hx _
  obtain ⟨e1, e2, e3⟩ := dp_some e
  have := decodePacket_any (flatP os) (sAt os k) w hl (by omega)
  rw [e1, e2, e3] at this
  exact this
theorem packetOk_yes {x : EPacket} (w : World) (hx : pkOk x = true) :
    Calls Try.prog 25 #[.agg #[.int .i64 x.f0, .int .i64 x.f1, .string ⟨(x.f2).toArray⟩]] w fun e w' => e = .returned (.bool true) ∧ Below w.heap.size w w' := by
  have h := (pkOk_parts hx).2.2
  have := packetOk_any (x := x) w (by unfold Txt; omega)
  rw [hx] at this
  exact this
theorem takeFrame_at {P : List EPacket} {ct : Int} {f : EFrame} {B : Option Addr} {m dp : Nat} {w : World} (hf : frAt P ct 0 = f) (hc : 0 ≤ ct ∧ ct ≤ 255) (h1 : 24 ≤ (flatP P).length) (h2 : (flatP P).length ≤ 5000) (hP : P.length ≤ 1048576)
    (hm : (dsAt P 0).length = m) (hnn_d : B = none → m = 0 ∧ dp = 0) (hr_d : Rd w 1 B m ((dsAt P 0).flatMap cI)) :
    Calls Try.prog 26 #[.agg #[.int .i64 0, .int .i64 ct, .string ⟨((flatP P).drop 0).toArray⟩, .slice B m dp]] w fun e w' => ∃ (ct' : Int) (r' : List UInt8) (A : Option Addr) (n c : Nat) (es : List Int), e = .returned (.tuple #[.agg #[.int .i64 0, .int .i64 ct', .string ⟨r'.toArray⟩, .slice A n c], .agg #[.int .i64 f.f0, .int .i64 f.f1, .int .i64 f.f2, .string ⟨(f.f3).toArray⟩], .bool true]) ∧ w'.ownsRow w.heap.size 3 1 (.slice A n c) n (es.flatMap cI) ∧ Below w.heap.size w w' := by
  have hl := dsAt_len P 0
  have ho : tfOk 0 ct ((flatP P).drop 0) (dsAt P 0) = true := by
    unfold tfOk
    rw [pkr_at (Nat.zero_le _) (by omega) hc, decide_eq_true (by rw [List.length_drop]; omega)]
    rfl
  refine (takeFrame_any 0 ct ((flatP P).drop 0) B m dp (dsAt P 0) w (by rw [List.length_drop]; omega) hm (by omega) hnn_d hr_d).mono fun e w' ⟨A, n, c, he, hn, ho', hb⟩ => ?_
  have e1 := (tf_yes ho).1
  have e2 : tfF 0 ct ((flatP P).drop 0) (dsAt P 0) = f := by rw [e1, ← hf]; rfl
  rw [e2, ho] at he
  exact ⟨_, _, A, n, c, _, he, ho', hb⟩
theorem frB_len {f : EFrame} : (frB f).length = f.f3.length + 3 := by unfold frB; simp [pw1] <;> omega
theorem encF_len {f : EFrame} (h : frOk f = true) : (encF f).length = 29 := by
  have := (frOk_parts h).2.2.2
  rw [encF_yes h, sealT_length, frB_len]
  omega
theorem df_enc {f : EFrame} (h : frOk f = true) : dfO (encF f) = true ∧ dfX (encF f) = f := by
  obtain ⟨⟨h1, h2⟩, ⟨h3, h4⟩, ⟨h5, h6⟩, h7⟩ := frOk_parts h
  obtain ⟨s1, s2⟩ := opOk_seal (frB f)
  have e : frT (frB f) = f := by
    have hb : frB f = by1 f.f0 :: by1 f.f1 :: by1 f.f2 :: f.f3 := rfl
    have a0 : nth (frB f) ((0 : Nat) : Int) = f.f0 := by rw [hb]; exact num_by1 _ h1 (by omega)
    have a1 : nth (frB f) ((1 : Nat) : Int) = f.f1 := by rw [hb]; exact num_by1 _ h3 h4
    have a2 : nth (frB f) ((2 : Nat) : Int) = f.f2 := by rw [hb]; exact num_by1 _ h5 (by omega)
    have a3 : (frB f).drop 3 = f.f3 := by rw [hb]; rfl
    unfold frT
    rw [a0, a1, a2, a3]
  have ho : dfO (encF f) = true := by
    unfold dfO
    rw [encF_yes h, s1, s2, e, h, decide_eq_true (by rw [frB_len]; omega)]
    rfl
  exact ⟨ho, by rw [df_yes ho, encF_yes h, s2, e]⟩
theorem df_long {s : List UInt8} (h : s.length ≠ 29) : dfO s = false := by
  cases hs : dfO s with
  | false => rfl
  | true =>
    unfold dfO at hs
    simp only [Bool.and_eq_true, decide_eq_true_eq] at hs
    have := opT_len hs.1
    omega
theorem df_turned {f : EFrame} (h : frOk f = true) {j : Nat} {y : UInt8} (hj : j < (encF f).length) (hy : y ≠ (encF f)[j]) : dfO ((encF f).set j y) = false := by
  cases hs : dfO ((encF f).set j y) with
  | false => rfl
  | true =>
    exfalso
    unfold dfO at hs
    simp only [Bool.and_eq_true] at hs
    have ho := hs.1
    have e := encF_yes h
    generalize encF f = t at *
    subst e
    unfold opOk at ho
    simp only [Bool.and_eq_true, beq_iff_eq] at ho
    exact sealT_set hj (fun e => hy e.symm) ho.2
theorem decodeFrame_enc {f : EFrame} (w : World) (h : frOk f = true) :
    Calls Try.prog 28 #[.string ⟨(encF f).toArray⟩] w fun e w' => e = .returned (.tuple #[.agg #[.int .i64 f.f0, .int .i64 f.f1, .int .i64 f.f2, .string ⟨(f.f3).toArray⟩], .bool true]) ∧ Below w.heap.size w w' := by
  have := decodeFrame_any (encF f) w (by unfold Txt; rw [encF_len h]; decide)
  rw [(df_enc h).1, (df_enc h).2] at this
  exact this
theorem decodeFrame_bad {s : List UInt8} (w : World) (h : dfO s = false) (hl : Txt s) :
    Calls Try.prog 28 #[.string ⟨s.toArray⟩] w fun e w' => e = .returned (.tuple #[.agg #[.int .i64 0, .int .i64 0, .int .i64 0, .string ⟨#[]⟩], .bool false]) ∧ Below w.heap.size w w' := by
  have := decodeFrame_any s w hl
  rw [h, df_no h] at this
  exact this
theorem frameOk_yes {x : EFrame} (w : World) (h : frOk x = true) :
    Calls Try.prog 30 #[.agg #[.int .i64 x.f0, .int .i64 x.f1, .int .i64 x.f2, .string ⟨(x.f3).toArray⟩]] w fun e w' => e = .returned (.bool true) ∧ Below w.heap.size w w' := by
  have h2 := (frOk_parts h).2.2.2
  have := frameOk_any (x := x) w (by unfold Txt; omega)
  rw [h] at this
  exact this
set_option maxRecDepth 100000 in
set_option maxHeartbeats 8000000 in
theorem fnPacketBytes_walk {w : World} (A : Option Addr) (n c : Nat) (bs : List UInt8) (hlen : bs.length = n) (hnc : n ≤ c) (hcm : c ≤ maxLen) (hr_cc : Rd w 1 A n (bs.flatMap cB)) :
    Calls Try.prog 5 #[.slice A n c] w fun e w' => e = .returned (.bool true) ∧ Below w.heap.size w w' := by
  have hcm2 := hcm
  unfold maxLen at hcm2
  refine enter 145 Try.func5 rfl rfl (Nat.le_of_ble_eq_true rfl) ?_
  intro a0 hs hargs
  have s0 : a0.eval (.tmp 0) = .slice A n c := hargs 0 _ rfl
  clear hargs
  have hB : Below w.heap.size w w := Below.refl _ _
  refine wp_seq_k fun K1 hK1 => ?_
  refine wp_region_lit ?_
  refine q_val rfl rfl ?_
  refine g_assign rfl rfl ?_
  intro a1 p1
  have s2 : a1.eval (.tmp 2) = .bool false := p1.at hs (by decide)
  replace hs := p1.st hs
  refine wpList_nil ?_
  replace s0 : a1.eval (.tmp 0) = .slice A n c := (p1.ne rfl).trans s0
  refine hK1 _ _ ?_
  clear hK1
  refine wp_seq_k fun K2 hK2 => ?_
  refine wp_seq_k fun K3 hK3 => ?_
  refine wp_region_lit ?_
  refine q_val rfl rfl ?_
  refine g_move rfl s0 ?_
  intro a2 p2
  have s23 : a2.eval (.tmp 23) = .slice A n c := p2.at hs (by decide)
  replace hs := p2.st hs
  refine q_val rfl rfl ?_
  refine g_call rfl rfl Try.call7 (arr1 s23) ?_
  refine (big_any _ _ _ _ (by omega)).mono ?_
  rintro e w' ⟨rfl, rfl⟩
  refine ⟨_, rfl, ?_⟩
  intro a3 p3
  have s24 : a3.eval (.tmp 24) = .bool (decide (1048576 < ((n : Nat) : Int))) := p3.at hs (by decide)
  replace hs := p3.st hs
  refine wpList_nil ?_
  replace s0 : a3.eval (.tmp 0) = .slice A n c := ((p3.ne rfl).trans (p2.ne rfl)).trans s0
  replace s2 : a3.eval (.tmp 2) = .bool false := ((p3.ne rfl).trans (p2.ne rfl)).trans s2
  refine hK3 _ _ ?_
  clear hK3
  by_cases hbig : 1048576 < ((n : Nat) : Int)
  · replace s24 := s24.trans (congrArg Value.bool (decide_eq_true hbig))
    replace s24 : a3.eval (.tmp 24) = .bool true := s24
    refine c_true s24 ?_
    refine wp_seq_k fun K4 hK4 => ?_
    refine wp_region_lit ?_
    refine q_val rfl rfl ?_
    refine g_assign rfl rfl ?_
    intro a4 p4
    have s2 : a4.eval (.tmp 2) = .bool true := p4.at hs (by decide)
    replace hs := p4.st hs
    refine wpList_nil ?_
    replace s0 : a4.eval (.tmp 0) = .slice A n c := (p4.ne rfl).trans s0
    refine hK4 _ _ ?_
    clear hK4
    refine wp_ret ?_
    try dsimp only [Exit.then, Exit.inBlock]
    refine ret1 hs Try.results5 (res_tmp s2) ?_
    exact ⟨rfl, hB⟩
  · replace s24 := s24.trans (congrArg Value.bool (decide_eq_false hbig))
    replace s24 : a3.eval (.tmp 24) = .bool false := s24
    refine c_false s24 ?_
    refine wp_skip ?_
    refine hK2 _ _ ?_
    clear hK2
    refine wp_seq_k fun K5 hK5 => ?_
    refine wp_region_lit ?_
    refine q_val rfl rfl ?_
    refine g_move rfl s0 ?_
    intro a4 p4
    have s25 : a4.eval (.tmp 25) = .slice A n c := p4.at hs (by decide)
    replace hs := p4.st hs
    refine q_val rfl rfl ?_
    refine g_call rfl rfl Try.call8 (arr1 s25) ?_
    refine (drawPackets_any A n c bs _ hlen (by omega) (hr_cc.below hB)).mono ?_
    rintro e w7 ⟨os, O, co, rfl, o_os, hD, hos1, hos2, hb6⟩
    refine ⟨_, rfl, ?_⟩
    have g_os : ∀ b, (O : Option Addr).map (·.block) = some b → w.heap.size ≤ b := fun b h => Nat.le_trans hB.size (own_row o_os b h).1
    replace o_os := own_base (base := w.heap.size) o_os hB.size
    replace hB := hB.trans (hb6.mono hB.size)
    clear hb6
    intro a5 p5
    have s26 : a5.eval (.tmp 26) = .slice O os.length co := p5.at hs (by decide)
    replace hs := p5.st hs
    refine q_val rfl rfl ?_
    refine g_assign rfl s26 ?_
    intro a6 p6
    have s3 : a6.eval (.tmp 3) = .slice O os.length co := p6.at hs (by decide)
    replace hs := p6.st hs
    refine wpList_nil ?_
    replace s0 : a6.eval (.tmp 0) = .slice A n c := ((p6.ne rfl).trans ((p5.ne rfl).trans (p4.ne rfl))).trans s0
    replace s2 : a6.eval (.tmp 2) = .bool false := ((p6.ne rfl).trans ((p5.ne rfl).trans (p4.ne rfl))).trans s2
    refine hK5 _ _ ?_
    clear hK5
    refine wp_seq_k fun K8 hK8 => ?_
    refine wp_region_lit ?_
    refine q_val rfl rfl ?_
    refine g_assign rfl rfl ?_
    intro a7 p7
    have s4 : a7.eval (.tmp 4) = .string ⟨#[]⟩ := p7.at hs (by decide)
    replace hs := p7.st hs
    refine wpList_nil ?_
    replace s0 : a7.eval (.tmp 0) = .slice A n c := (p7.ne rfl).trans s0
    replace s2 : a7.eval (.tmp 2) = .bool false := (p7.ne rfl).trans s2
    replace s3 : a7.eval (.tmp 3) = .slice O os.length co := (p7.ne rfl).trans s3
    refine hK8 _ _ ?_
    clear hK8
    refine wp_seq_k fun K9 hK9 => ?_
    refine wp_seq_k fun K10 hK10 => ?_
    refine wp_region_lit ?_
    refine q_val rfl rfl ?_
    refine g_assign rfl rfl ?_
    intro a8 p8
    have s5 : a8.eval (.tmp 5) = .int .i64 0 := p8.at hs (by decide)
    replace hs := p8.st hs
    refine wpList_nil ?_
    replace s0 : a8.eval (.tmp 0) = .slice A n c := (p8.ne rfl).trans s0
    replace s2 : a8.eval (.tmp 2) = .bool false := (p8.ne rfl).trans s2
    replace s3 : a8.eval (.tmp 3) = .slice O os.length co := (p8.ne rfl).trans s3
    replace s4 : a8.eval (.tmp 4) = .string ⟨#[]⟩ := (p8.ne rfl).trans s4
    refine hK10 _ _ ?_
    clear hK10
    refine wp_block ?_
    refine wp_loop (fun a wr => ∃ (k : Nat), (St 145 a) ∧ (a.eval (.tmp 0) = .slice A n c) ∧ (a.eval (.tmp 2) = .bool false) ∧ (a.eval (.tmp 3) = .slice O os.length co) ∧ (a.eval (.tmp 4) = .string ⟨(flatP (os.take k)).toArray⟩) ∧ (a.eval (.tmp 5) = .int .i64 ((k : Nat) : Int)) ∧ (Below w.heap.size w wr) ∧ (wr.ownsRow w.heap.size 32 3 (.slice O os.length co) os.length (os.flatMap cPacket)) ∧ (k ≤ os.length)) (fun a _ => os.length - (intOf (a.eval (.tmp 5))).toNat) (⟨0, hs, s0, s2, s3, s4, s5, hB, o_os, Nat.zero_le _⟩) ?_
    intro a9 w12 hIv
    obtain ⟨k, hs, s0, s2, s3, s4, s5, hB, o_os, hk⟩ := hIv
    have mu13 := s5
    refine wp_seq_k fun K14 hK14 => ?_
    refine wp_seq_k fun K15 hK15 => ?_
    refine wp_region_lit ?_
    refine q_val rfl rfl ?_
    refine g_move rfl s5 ?_
    intro a10 p10
    have s27 : a10.eval (.tmp 27) = .int .i64 ((k : Nat) : Int) := p10.at hs (by decide)
    replace hs := p10.st hs
    refine q_val rfl rfl ?_
    refine g_move rfl ((p10.ne rfl).trans s3) ?_
    intro a11 p11
    have s28 : a11.eval (.tmp 28) = .slice O os.length co := p11.at hs (by decide)
    replace hs := p11.st hs
    refine q_val rfl rfl ?_
    refine g_len (e := _) rfl Try.underlying24 s28 ?_
    intro a12 p12
    have s29 : a12.eval (.tmp 29) = .int .i64 ((os.length : Nat) : Int) := p12.at hs (by decide)
    replace hs := p12.st hs
    refine q_val rfl rfl ?_
    refine g_lss rfl (((p12.ne rfl).trans (p11.ne rfl)).trans s27) s29 ?_
    intro a13 p13
    have s30 : a13.eval (.tmp 30) = .bool (decide (((k : Nat) : Int) < ((os.length : Nat) : Int))) := p13.at hs (by decide)
    replace hs := p13.st hs
    refine wpList_nil ?_
    replace s0 : a13.eval (.tmp 0) = .slice A n c := ((p13.ne rfl).trans ((p12.ne rfl).trans ((p11.ne rfl).trans (p10.ne rfl)))).trans s0
    replace s2 : a13.eval (.tmp 2) = .bool false := ((p13.ne rfl).trans ((p12.ne rfl).trans ((p11.ne rfl).trans (p10.ne rfl)))).trans s2
    replace s3 : a13.eval (.tmp 3) = .slice O os.length co := ((p13.ne rfl).trans ((p12.ne rfl).trans ((p11.ne rfl).trans (p10.ne rfl)))).trans s3
    replace s4 : a13.eval (.tmp 4) = .string ⟨(flatP (os.take k)).toArray⟩ := ((p13.ne rfl).trans ((p12.ne rfl).trans ((p11.ne rfl).trans (p10.ne rfl)))).trans s4
    replace s5 : a13.eval (.tmp 5) = .int .i64 ((k : Nat) : Int) := ((p13.ne rfl).trans ((p12.ne rfl).trans ((p11.ne rfl).trans (p10.ne rfl)))).trans s5
    refine hK15 _ _ ?_
    clear hK15
    by_cases hc16 : ((k : Nat) : Int) < ((os.length : Nat) : Int)
    · replace s30 := s30.trans (congrArg Value.bool (decide_eq_true hc16))
      replace s30 : a13.eval (.tmp 30) = .bool true := s30
      refine c_true s30 ?_
      refine wp_skip ?_
      refine hK14 _ _ ?_
      clear hK14
      refine wp_seq_k fun K17 hK17 => ?_
      refine wp_block ?_
      have hlt : k < os.length := by omega
      have hxok : pkOk os[k] = true := (hD _ (List.getElem_mem hlt)).1
      have hx40 := (pkOk_parts hxok).2.2
      have hTx : Txt os[k].f2 := by unfold Txt; omega
      have hf44 := flat_44 hD k
      have hel := pkEnc_len os[k]
      refine wp_region_lit ?_
      refine q_val rfl rfl ?_
      refine g_move rfl s4 ?_
      intro a14 p14
      have s33 : a14.eval (.tmp 33) = .string ⟨(flatP (os.take k)).toArray⟩ := p14.at hs (by decide)
      replace hs := p14.st hs
      refine q_val rfl rfl ?_
      refine g_move rfl ((p14.ne rfl).trans s3) ?_
      intro a15 p15
      have s34 : a15.eval (.tmp 34) = .slice O os.length co := p15.at hs (by decide)
      replace hs := p15.st hs
      refine q_val rfl rfl ?_
      refine g_move rfl (((p15.ne rfl).trans (p14.ne rfl)).trans s5) ?_
      intro a16 p16
      have s35 : a16.eval (.tmp 35) = .int .i64 ((k : Nat) : Int) := p16.at hs (by decide)
      replace hs := p16.st hs
      obtain ⟨b18, o19, hA20, hl_hc21, hc21⟩ := Rd.get cPacket_len (Rd.of_own o_os) rfl (i := k) (by omega)
      refine q_val rfl rfl ?_
      refine g_index (r := o19 + k * 3) (k := k) rfl (((p16.ne rfl).trans s34).trans (slice_at hA20)) s35 Try.underlying24 (fun w => Try.sizeOf32 w) (by omega) rfl ?_
      intro a17 p17
      have s36 : a17.eval (.tmp 36) = .pointer (some ⟨b18, o19 + k * 3, none⟩) := p17.at hs (by decide)
      replace hs := p17.st hs
      refine q_val rfl rfl ?_
      refine g_loadA (l := cPacket os[k]) rfl s36 Try.isAgg32 Try.sizeOf32 rfl (fun j u hu => by rw [Nat.add_assoc]; exact hc21 j u (by have := (List.getElem?_eq_some_iff.1 hu).1; exact this) hu) ?_
      intro a18 p18
      have s37 : a18.eval (.tmp 37) = .agg #[.int .i64 (os[k].f0), .int .i64 (os[k].f1), .string ⟨(os[k].f2).toArray⟩] := p18.at hs (by decide)
      replace hs := p18.st hs
      refine q_val rfl rfl ?_
      refine g_call rfl rfl Try.call23 (arr1 s37) ?_
      refine (encodePacket_any (x := os[k]) _ hTx).mono ?_
      rintro e w23 ⟨rfl, hb22⟩
      refine ⟨_, rfl, ?_⟩
      replace o_os := own_below o_os hb22
      replace hB := hB.trans (hb22.mono hB.size)
      clear hb22
      intro a19 p19
      have s38 : a19.eval (.tmp 38) = .string ⟨(pkEnc os[k]).toArray⟩ := p19.at hs (by decide)
      replace hs := p19.st hs
      refine q_val rfl rfl ?_
      refine g_concat rfl (((p19.ne rfl).trans ((p18.ne rfl).trans ((p17.ne rfl).trans ((p16.ne rfl).trans (p15.ne rfl))))).trans s33) s38 (by omega) ?_
      intro a20 p20
      have s39 : a20.eval (.tmp 39) = .string ⟨((flatP (os.take k)) ++ (pkEnc os[k])).toArray⟩ := p20.at hs (by decide)
      replace hs := p20.st hs
      refine q_val rfl rfl ?_
      refine g_assign rfl s39 ?_
      intro a21 p21
      have s4 : a21.eval (.tmp 4) = .string ⟨((flatP (os.take k)) ++ (pkEnc os[k])).toArray⟩ := p21.at hs (by decide)
      replace hs := p21.st hs
      refine wpList_nil ?_
      replace s0 : a21.eval (.tmp 0) = .slice A n c := ((p21.ne rfl).trans ((p20.ne rfl).trans ((p19.ne rfl).trans ((p18.ne rfl).trans ((p17.ne rfl).trans ((p16.ne rfl).trans ((p15.ne rfl).trans (p14.ne rfl)))))))).trans s0
      replace s2 : a21.eval (.tmp 2) = .bool false := ((p21.ne rfl).trans ((p20.ne rfl).trans ((p19.ne rfl).trans ((p18.ne rfl).trans ((p17.ne rfl).trans ((p16.ne rfl).trans ((p15.ne rfl).trans (p14.ne rfl)))))))).trans s2
      replace s3 : a21.eval (.tmp 3) = .slice O os.length co := ((p21.ne rfl).trans ((p20.ne rfl).trans ((p19.ne rfl).trans ((p18.ne rfl).trans ((p17.ne rfl).trans ((p16.ne rfl).trans ((p15.ne rfl).trans (p14.ne rfl)))))))).trans s3
      replace s5 : a21.eval (.tmp 5) = .int .i64 ((k : Nat) : Int) := ((p21.ne rfl).trans ((p20.ne rfl).trans ((p19.ne rfl).trans ((p18.ne rfl).trans ((p17.ne rfl).trans ((p16.ne rfl).trans ((p15.ne rfl).trans (p14.ne rfl)))))))).trans s5
      replace s30 : a21.eval (.tmp 30) = .bool true := ((p21.ne rfl).trans ((p20.ne rfl).trans ((p19.ne rfl).trans ((p18.ne rfl).trans ((p17.ne rfl).trans ((p16.ne rfl).trans ((p15.ne rfl).trans (p14.ne rfl)))))))).trans s30
      refine hK17 _ _ ?_
      clear hK17
      refine wp_region_lit ?_
      refine q_val rfl rfl ?_
      refine g_move rfl s5 ?_
      intro a22 p22
      have s31 : a22.eval (.tmp 31) = .int .i64 ((k : Nat) : Int) := p22.at hs (by decide)
      replace hs := p22.st hs
      refine q_val rfl rfl ?_
      refine g_add (r := ((k + 1 : Nat) : Int)) rfl s31 rfl (by omega) (by omega) ?_
      intro a23 p23
      have s32 : a23.eval (.tmp 32) = .int .i64 ((k + 1 : Nat) : Int) := p23.at hs (by decide)
      replace hs := p23.st hs
      refine q_val rfl rfl ?_
      refine g_assign rfl s32 ?_
      intro a24 p24
      have s5 : a24.eval (.tmp 5) = .int .i64 ((k + 1 : Nat) : Int) := p24.at hs (by decide)
      replace hs := p24.st hs
      refine wpList_nil ?_
      replace s0 : a24.eval (.tmp 0) = .slice A n c := ((p24.ne rfl).trans ((p23.ne rfl).trans (p22.ne rfl))).trans s0
      replace s2 : a24.eval (.tmp 2) = .bool false := ((p24.ne rfl).trans ((p23.ne rfl).trans (p22.ne rfl))).trans s2
      replace s3 : a24.eval (.tmp 3) = .slice O os.length co := ((p24.ne rfl).trans ((p23.ne rfl).trans (p22.ne rfl))).trans s3
      replace s4 : a24.eval (.tmp 4) = .string ⟨((flatP (os.take k)) ++ (pkEnc os[k])).toArray⟩ := ((p24.ne rfl).trans ((p23.ne rfl).trans (p22.ne rfl))).trans s4
      replace s30 : a24.eval (.tmp 30) = .bool true := ((p24.ne rfl).trans ((p23.ne rfl).trans (p22.ne rfl))).trans s30
      refine show _ ∧ _ from ⟨⟨k + 1, hs, s0, s2, s3, (Eq.trans s4 (congrArg (fun l => Value.string ⟨List.toArray l⟩) (enc_next hlt hxok))), s5, hB, o_os, hlt⟩, ?_⟩
      show os.length - (intOf (a24.eval (.tmp 5))).toNat < os.length - (intOf (a9.eval (.tmp 5))).toNat
      rw [s5, mu13]
      simp only [intOf]
      omega
    · replace s30 := s30.trans (congrArg Value.bool (decide_eq_false hc16))
      replace s30 : a13.eval (.tmp 30) = .bool false := s30
      refine c_false s30 ?_
      refine wp_exit ?_
      refine hK9 _ _ ?_
      clear hK9
      refine wp_seq_k fun K24 hK24 => ?_
      have hkz : k = os.length := by omega
      subst hkz
      have hf44 := flat_44 hD os.length
      rw [List.take_length] at s4 hf44
      refine wp_region_lit ?_
      refine q_val rfl rfl ?_
      refine g_assign rfl rfl ?_
      intro a14 p14
      have s6 : a14.eval (.tmp 6) = .int .i64 0 := p14.at hs (by decide)
      replace hs := p14.st hs
      refine wpList_nil ?_
      replace s0 : a14.eval (.tmp 0) = .slice A n c := (p14.ne rfl).trans s0
      replace s2 : a14.eval (.tmp 2) = .bool false := (p14.ne rfl).trans s2
      replace s3 : a14.eval (.tmp 3) = .slice O os.length co := (p14.ne rfl).trans s3
      replace s4 : a14.eval (.tmp 4) = .string ⟨(flatP os).toArray⟩ := (p14.ne rfl).trans s4
      refine hK24 _ _ ?_
      clear hK24
      refine wp_seq_k fun K25 hK25 => ?_
      refine wp_seq_k fun K26 hK26 => ?_
      refine wp_region_lit ?_
      refine q_val rfl rfl ?_
      refine g_assign rfl rfl ?_
      intro a15 p15
      have s7 : a15.eval (.tmp 7) = .int .i64 0 := p15.at hs (by decide)
      replace hs := p15.st hs
      refine wpList_nil ?_
      replace s0 : a15.eval (.tmp 0) = .slice A n c := (p15.ne rfl).trans s0
      replace s2 : a15.eval (.tmp 2) = .bool false := (p15.ne rfl).trans s2
      replace s3 : a15.eval (.tmp 3) = .slice O os.length co := (p15.ne rfl).trans s3
      replace s4 : a15.eval (.tmp 4) = .string ⟨(flatP os).toArray⟩ := (p15.ne rfl).trans s4
      replace s6 : a15.eval (.tmp 6) = .int .i64 0 := (p15.ne rfl).trans s6
      refine hK26 _ _ ?_
      clear hK26
      refine wp_block ?_
      refine wp_loop (fun a wr => ∃ (k : Nat), (St 145 a) ∧ (a.eval (.tmp 0) = .slice A n c) ∧ (a.eval (.tmp 2) = .bool false) ∧ (a.eval (.tmp 3) = .slice O os.length co) ∧ (a.eval (.tmp 4) = .string ⟨(flatP os).toArray⟩) ∧ (a.eval (.tmp 6) = .int .i64 ((sAt os k : Nat) : Int)) ∧ (a.eval (.tmp 7) = .int .i64 ((k : Nat) : Int)) ∧ (Below w.heap.size w wr) ∧ (wr.ownsRow w.heap.size 32 3 (.slice O os.length co) os.length (os.flatMap cPacket)) ∧ (k ≤ os.length)) (fun a _ => os.length - (intOf (a.eval (.tmp 7))).toNat) (⟨0, hs, s0, s2, s3, s4, s6, s7, hB, o_os, Nat.zero_le _⟩) ?_
      intro a16 w28 hIv
      obtain ⟨k, hs, s0, s2, s3, s4, s6, s7, hB, o_os, hk⟩ := hIv
      have mu29 := s7
      refine wp_seq_k fun K30 hK30 => ?_
      refine wp_seq_k fun K31 hK31 => ?_
      refine wp_region_lit ?_
      refine q_val rfl rfl ?_
      refine g_move rfl s7 ?_
      intro a17 p17
      have s40 : a17.eval (.tmp 40) = .int .i64 ((k : Nat) : Int) := p17.at hs (by decide)
      replace hs := p17.st hs
      refine q_val rfl rfl ?_
      refine g_move rfl ((p17.ne rfl).trans s3) ?_
      intro a18 p18
      have s41 : a18.eval (.tmp 41) = .slice O os.length co := p18.at hs (by decide)
      replace hs := p18.st hs
      refine q_val rfl rfl ?_
      refine g_len (e := _) rfl Try.underlying24 s41 ?_
      intro a19 p19
      have s42 : a19.eval (.tmp 42) = .int .i64 ((os.length : Nat) : Int) := p19.at hs (by decide)
      replace hs := p19.st hs
      refine q_val rfl rfl ?_
      refine g_lss rfl (((p19.ne rfl).trans (p18.ne rfl)).trans s40) s42 ?_
      intro a20 p20
      have s43 : a20.eval (.tmp 43) = .bool (decide (((k : Nat) : Int) < ((os.length : Nat) : Int))) := p20.at hs (by decide)
      replace hs := p20.st hs
      refine wpList_nil ?_
      replace s0 : a20.eval (.tmp 0) = .slice A n c := ((p20.ne rfl).trans ((p19.ne rfl).trans ((p18.ne rfl).trans (p17.ne rfl)))).trans s0
      replace s2 : a20.eval (.tmp 2) = .bool false := ((p20.ne rfl).trans ((p19.ne rfl).trans ((p18.ne rfl).trans (p17.ne rfl)))).trans s2
      replace s3 : a20.eval (.tmp 3) = .slice O os.length co := ((p20.ne rfl).trans ((p19.ne rfl).trans ((p18.ne rfl).trans (p17.ne rfl)))).trans s3
      replace s4 : a20.eval (.tmp 4) = .string ⟨(flatP os).toArray⟩ := ((p20.ne rfl).trans ((p19.ne rfl).trans ((p18.ne rfl).trans (p17.ne rfl)))).trans s4
      replace s6 : a20.eval (.tmp 6) = .int .i64 ((sAt os k : Nat) : Int) := ((p20.ne rfl).trans ((p19.ne rfl).trans ((p18.ne rfl).trans (p17.ne rfl)))).trans s6
      replace s7 : a20.eval (.tmp 7) = .int .i64 ((k : Nat) : Int) := ((p20.ne rfl).trans ((p19.ne rfl).trans ((p18.ne rfl).trans (p17.ne rfl)))).trans s7
      refine hK31 _ _ ?_
      clear hK31
      by_cases hc32 : ((k : Nat) : Int) < ((os.length : Nat) : Int)
      · replace s43 := s43.trans (congrArg Value.bool (decide_eq_true hc32))
        replace s43 : a20.eval (.tmp 43) = .bool true := s43
        refine c_true s43 ?_
        refine wp_skip ?_
        refine hK30 _ _ ?_
        clear hK30
        refine wp_seq_k fun K33 hK33 => ?_
        refine wp_block ?_
        refine wp_seq_k fun K34 hK34 => ?_
        have hlt : k < os.length := by omega
        have hxok : pkOk os[k] = true := (hD _ (List.getElem_mem hlt)).1
        have hsl := sAt_le os hlt
        refine wp_region_lit ?_
        refine q_val rfl rfl ?_
        refine g_move rfl s4 ?_
        intro a21 p21
        have s47 : a21.eval (.tmp 47) = .string ⟨(flatP os).toArray⟩ := p21.at hs (by decide)
        replace hs := p21.st hs
        refine q_val rfl rfl ?_
        refine g_move rfl ((p21.ne rfl).trans s6) ?_
        intro a22 p22
        have s48 : a22.eval (.tmp 48) = .int .i64 ((sAt os k : Nat) : Int) := p22.at hs (by decide)
        replace hs := p22.st hs
        refine q_val rfl rfl ?_
        refine g_call rfl rfl Try.call24 (arr2 ((p22.ne rfl).trans s47) s48) ?_
        refine (decodePacket_at (os := os) (k := k) _ hlt hxok (by omega)).mono ?_
        rintro e w36 ⟨rfl, hb35⟩
        refine ⟨_, rfl, ?_⟩
        replace o_os := own_below o_os hb35
        replace hB := hB.trans (hb35.mono hB.size)
        clear hb35
        intro a23 p23
        have s49 : a23.eval (.tmp 49) = .tuple #[.agg #[.int .i64 (os[k].f0), .int .i64 (os[k].f1), .string ⟨(os[k].f2).toArray⟩], .int .i64 ((4 + os[k].f2.length : Nat) : Int), .bool true] := p23.at hs (by decide)
        replace hs := p23.st hs
        refine q_val rfl rfl ?_
        refine g_move rfl s49 ?_
        intro a24 p24
        have s46 : a24.eval (.tmp 46) = .tuple #[.agg #[.int .i64 (os[k].f0), .int .i64 (os[k].f1), .string ⟨(os[k].f2).toArray⟩], .int .i64 ((4 + os[k].f2.length : Nat) : Int), .bool true] := p24.at hs (by decide)
        replace hs := p24.st hs
        refine q_val rfl rfl ?_
        refine g_extract rfl s46 rfl ?_
        intro a25 p25
        have s50 : a25.eval (.tmp 50) = .agg #[.int .i64 (os[k].f0), .int .i64 (os[k].f1), .string ⟨(os[k].f2).toArray⟩] := p25.at hs (by decide)
        replace hs := p25.st hs
        refine q_val rfl rfl ?_
        refine g_extract rfl ((p25.ne rfl).trans s46) rfl ?_
        intro a26 p26
        have s51 : a26.eval (.tmp 51) = .int .i64 ((4 + os[k].f2.length : Nat) : Int) := p26.at hs (by decide)
        replace hs := p26.st hs
        refine q_val rfl rfl ?_
        refine g_extract rfl (((p26.ne rfl).trans (p25.ne rfl)).trans s46) rfl ?_
        intro a27 p27
        have s52 : a27.eval (.tmp 52) = .bool true := p27.at hs (by decide)
        replace hs := p27.st hs
        refine q_val rfl rfl ?_
        refine g_alloc rfl Try.zeroValue32 rfl ?_
        intro q37 w38 N_q37
        have d_os_q37 := own_ne_new o_os N_q37
        have g_q37 : GeB w.heap.size q37 := ⟨Nat.le_trans hB.size N_q37.lo⟩
        replace o_os := own_below o_os N_q37.below
        replace hB := below_new hB hB.size N_q37
        have h_q37 := N_q37.here
        clear N_q37
        intro a28 p28
        have s8 : a28.eval (.tmp 8) = .pointer (some ⟨q37, 0, none⟩) := p28.at hs (by decide)
        replace hs := p28.st hs
        refine q_eff rfl rfl ?_
        refine g_storeB rfl s8 (((p28.ne rfl).trans ((p27.ne rfl).trans (p26.ne rfl))).trans s50) Try.sizeOf32 rfl rfl h_q37 rfl ?_
        intro w39 W_w39
        replace h_q37 := W_w39.here
        replace o_os := own_wrote o_os W_w39 d_os_q37
        replace hB := below_wrote hB hB.size W_w39 g_q37.le
        clear W_w39
        refine q_val rfl rfl ?_
        refine g_assign rfl (((p28.ne rfl).trans (p27.ne rfl)).trans s51) ?_
        intro a29 p29
        have s9 : a29.eval (.tmp 9) = .int .i64 ((4 + os[k].f2.length : Nat) : Int) := p29.at hs (by decide)
        replace hs := p29.st hs
        refine q_val rfl rfl ?_
        refine g_assign rfl (((p29.ne rfl).trans (p28.ne rfl)).trans s52) ?_
        intro a30 p30
        have s10 : a30.eval (.tmp 10) = .bool true := p30.at hs (by decide)
        replace hs := p30.st hs
        refine wpList_nil ?_
        replace s0 : a30.eval (.tmp 0) = .slice A n c := ((p30.ne rfl).trans ((p29.ne rfl).trans ((p28.ne rfl).trans ((p27.ne rfl).trans ((p26.ne rfl).trans ((p25.ne rfl).trans ((p24.ne rfl).trans ((p23.ne rfl).trans ((p22.ne rfl).trans (p21.ne rfl)))))))))).trans s0
        replace s2 : a30.eval (.tmp 2) = .bool false := ((p30.ne rfl).trans ((p29.ne rfl).trans ((p28.ne rfl).trans ((p27.ne rfl).trans ((p26.ne rfl).trans ((p25.ne rfl).trans ((p24.ne rfl).trans ((p23.ne rfl).trans ((p22.ne rfl).trans (p21.ne rfl)))))))))).trans s2
        replace s3 : a30.eval (.tmp 3) = .slice O os.length co := ((p30.ne rfl).trans ((p29.ne rfl).trans ((p28.ne rfl).trans ((p27.ne rfl).trans ((p26.ne rfl).trans ((p25.ne rfl).trans ((p24.ne rfl).trans ((p23.ne rfl).trans ((p22.ne rfl).trans (p21.ne rfl)))))))))).trans s3
        replace s4 : a30.eval (.tmp 4) = .string ⟨(flatP os).toArray⟩ := ((p30.ne rfl).trans ((p29.ne rfl).trans ((p28.ne rfl).trans ((p27.ne rfl).trans ((p26.ne rfl).trans ((p25.ne rfl).trans ((p24.ne rfl).trans ((p23.ne rfl).trans ((p22.ne rfl).trans (p21.ne rfl)))))))))).trans s4
        replace s6 : a30.eval (.tmp 6) = .int .i64 ((sAt os k : Nat) : Int) := ((p30.ne rfl).trans ((p29.ne rfl).trans ((p28.ne rfl).trans ((p27.ne rfl).trans ((p26.ne rfl).trans ((p25.ne rfl).trans ((p24.ne rfl).trans ((p23.ne rfl).trans ((p22.ne rfl).trans (p21.ne rfl)))))))))).trans s6
        replace s7 : a30.eval (.tmp 7) = .int .i64 ((k : Nat) : Int) := ((p30.ne rfl).trans ((p29.ne rfl).trans ((p28.ne rfl).trans ((p27.ne rfl).trans ((p26.ne rfl).trans ((p25.ne rfl).trans ((p24.ne rfl).trans ((p23.ne rfl).trans ((p22.ne rfl).trans (p21.ne rfl)))))))))).trans s7
        replace s43 : a30.eval (.tmp 43) = .bool true := ((p30.ne rfl).trans ((p29.ne rfl).trans ((p28.ne rfl).trans ((p27.ne rfl).trans ((p26.ne rfl).trans ((p25.ne rfl).trans ((p24.ne rfl).trans ((p23.ne rfl).trans ((p22.ne rfl).trans (p21.ne rfl)))))))))).trans s43
        replace s8 : a30.eval (.tmp 8) = .pointer (some ⟨q37, 0, none⟩) := ((p30.ne rfl).trans (p29.ne rfl)).trans s8
        replace s9 : a30.eval (.tmp 9) = .int .i64 ((4 + os[k].f2.length : Nat) : Int) := (p30.ne rfl).trans s9
        refine hK34 _ _ ?_
        clear hK34
        refine wp_seq_k fun K40 hK40 => ?_
        refine wp_seq_k fun K41 hK41 => ?_
        obtain ⟨b42, o43, hA44, hl_hc45, hc45⟩ := Rd.get cPacket_len (Rd.of_own o_os) rfl (i := k) (by omega)
        refine wp_drawn (n := 145) [] [] [] (fun k_ v_ _wx => match k_ with | 0 => v_ = .bool true | 1 => v_ = .bool false | 2 => v_ = .bool false | 3 => v_ = .agg #[.int .i64 (os[k].f0), .int .i64 (os[k].f1), .string ⟨(os[k].f2).toArray⟩] | 4 => v_ = .slice O os.length co | 5 => v_ = .int .i64 ((k : Nat) : Int) | 6 => v_ = .pointer (some ⟨b42, o43 + k * 3, none⟩) | 7 => v_ = .agg #[.int .i64 (os[k].f0), .int .i64 (os[k].f1), .string ⟨(os[k].f2).toArray⟩] | 8 => v_ = .bool false | 9 => v_ = .bool false | 10 => v_ = .bool false | 11 => v_ = .agg #[.int .i64 (os[k].f0), .int .i64 (os[k].f1), .string ⟨(os[k].f2).toArray⟩] | 12 => v_ = .bool true | 13 => v_ = .bool false | 14 => v_ = .bool false | _ => True) (by kernel_rfl) (by kernel_rfl) (by kernel_rfl) (by kernel_rfl) hs.size ?_ ?_ ?_
        · intro i v wa wb hb hr
          rcases i with _ | _ | _ | _ | _ | _ | _ | _ | _ | _ | _ | _ | _ | _ | _ | i
          · exact hr
          · exact hr
          · exact hr
          · exact hr
          · exact hr
          · exact hr
          · exact hr
          · exact hr
          · exact hr
          · exact hr
          · exact hr
          · exact hr
          · exact hr
          · exact hr
          · exact hr
          · trivial
        · refine d_step rfl rfl ?_ (d_step rfl rfl ?_ (d_step rfl rfl ?_ (d_take rfl 2 false 55 rfl rfl rfl (fun v w h => h) ?_ (d_take rfl 2 false 55 rfl rfl rfl (fun v w h => h) ?_ (d_take rfl 2 false 55 rfl rfl rfl (fun v w h => h) ?_ (d_take rfl 2 false 55 rfl rfl rfl (fun v w h => h) ?_ (d_take rfl 2 false 55 rfl rfl rfl (fun v w h => h) ?_ (d_take rfl 2 false 55 rfl rfl rfl (fun v w h => h) ?_ (d_step rfl rfl ?_ (d_step rfl rfl ?_ (d_take rfl 10 false 63 rfl rfl rfl (fun v w h => h) ?_ (d_take rfl 10 false 63 rfl rfl rfl (fun v w h => h) ?_ (d_take rfl 10 false 63 rfl rfl rfl (fun v w h => h) ?_ (d_step rfl rfl ?_ (d_nil)))))))))))))))
          · intro xv_ wx ρ hρ hwx hd K hK
            have e10 : ρ (.tmp 10) = .bool true := (hρ.inn 10 rfl).trans s10
            refine g_move rfl e10 ?_
            exact hK _ _ (Below.refl _ _) rfl
          · intro xv_ wx ρ hρ hwx hd K hK
            obtain r0 : xv_ 0 = .bool true := hd 0 rfl
            have e53 : ρ (.tmp 53) = .bool true := (hρ.out 0 53 rfl (by rw [hs.size]; decide) rfl).trans r0
            refine g_not rfl e53 ?_
            exact hK _ _ (Below.refl _ _) rfl
          · intro xv_ wx ρ hρ hwx hd K hK
            obtain r1 : xv_ 1 = .bool false := hd 1 rfl
            have e54 : ρ (.tmp 54) = .bool false := (hρ.out 1 54 rfl (by rw [hs.size]; decide) rfl).trans r1
            refine g_move rfl e54 ?_
            exact hK _ _ (Below.refl _ _) rfl
          · intro xv_ wx ρ hρ hwx hd K hK
            have e8 : ρ (.tmp 8) = .pointer (some ⟨q37, 0, none⟩) := (hρ.inn 8 rfl).trans s8
            have h_q37 := keep_below h_q37 hwx
            refine g_loadB rfl e8 Try.isAgg32 Try.sizeOf32 rfl h_q37 ?_
            exact hK _ _ (Below.refl _ _) rfl
          · intro xv_ wx ρ hρ hwx hd K hK
            have e3 : ρ (.tmp 3) = .slice O os.length co := (hρ.inn 3 rfl).trans s3
            refine g_move rfl e3 ?_
            exact hK _ _ (Below.refl _ _) rfl
          · intro xv_ wx ρ hρ hwx hd K hK
            have e7 : ρ (.tmp 7) = .int .i64 ((k : Nat) : Int) := (hρ.inn 7 rfl).trans s7
            refine g_move rfl e7 ?_
            exact hK _ _ (Below.refl _ _) rfl
          · intro xv_ wx ρ hρ hwx hd K hK
            obtain r4 : xv_ 4 = .slice O os.length co := hd 4 rfl
            have e57 : ρ (.tmp 57) = .slice O os.length co := (hρ.out 4 57 rfl (by rw [hs.size]; decide) rfl).trans r4
            obtain r5 : xv_ 5 = .int .i64 ((k : Nat) : Int) := hd 5 rfl
            have e58 : ρ (.tmp 58) = .int .i64 ((k : Nat) : Int) := (hρ.out 5 58 rfl (by rw [hs.size]; decide) rfl).trans r5
            refine g_index (r := o43 + k * 3) (k := k) rfl (e57.trans (slice_at hA44)) e58 Try.underlying24 (fun w => Try.sizeOf32 w) (by omega) rfl ?_
            exact hK _ _ (Below.refl _ _) rfl
          · intro xv_ wx ρ hρ hwx hd K hK
            obtain r6 : xv_ 6 = .pointer (some ⟨b42, o43 + k * 3, none⟩) := hd 6 rfl
            have e59 : ρ (.tmp 59) = .pointer (some ⟨b42, o43 + k * 3, none⟩) := (hρ.out 6 59 rfl (by rw [hs.size]; decide) rfl).trans r6
            have hc45 := elem_below hc45 hwx hl_hc45
            refine g_loadA (l := cPacket os[k]) rfl e59 Try.isAgg32 Try.sizeOf32 rfl (fun j u hu => by rw [Nat.add_assoc]; exact hc45 j u (by have := (List.getElem?_eq_some_iff.1 hu).1; exact this) hu) ?_
            exact hK _ _ (Below.refl _ _) rfl
          · intro xv_ wx ρ hρ hwx hd K hK
            obtain r3 : xv_ 3 = .agg #[.int .i64 (os[k].f0), .int .i64 (os[k].f1), .string ⟨(os[k].f2).toArray⟩] := hd 3 rfl
            have e56 : ρ (.tmp 56) = .agg #[.int .i64 (os[k].f0), .int .i64 (os[k].f1), .string ⟨(os[k].f2).toArray⟩] := (hρ.out 3 56 rfl (by rw [hs.size]; decide) rfl).trans r3
            obtain r7 : xv_ 7 = .agg #[.int .i64 (os[k].f0), .int .i64 (os[k].f1), .string ⟨(os[k].f2).toArray⟩] := hd 7 rfl
            have e60 : ρ (.tmp 60) = .agg #[.int .i64 (os[k].f0), .int .i64 (os[k].f1), .string ⟨(os[k].f2).toArray⟩] := (hρ.out 7 60 rfl (by rw [hs.size]; decide) rfl).trans r7
            refine g_neqP rfl e56 e60 rfl ?_
            exact hK _ _ (Below.refl _ _) rfl
          · intro xv_ wx ρ hρ hwx hd K hK
            obtain r2 : xv_ 2 = .bool false := hd 2 rfl
            have e55 : ρ (.tmp 55) = .bool false := (hρ.out 2 55 rfl (by rw [hs.size]; decide) rfl).trans r2
            obtain r8 : xv_ 8 = .bool false := hd 8 rfl
            have e61 : ρ (.tmp 61) = .bool false := (hρ.out 8 61 rfl (by rw [hs.size]; decide) rfl).trans r8
            refine g_pick_f rfl e55 e61 ?_
            exact hK _ _ (Below.refl _ _) rfl
          · intro xv_ wx ρ hρ hwx hd K hK
            obtain r9 : xv_ 9 = .bool false := hd 9 rfl
            have e62 : ρ (.tmp 62) = .bool false := (hρ.out 9 62 rfl (by rw [hs.size]; decide) rfl).trans r9
            refine g_move rfl e62 ?_
            exact hK _ _ (Below.refl _ _) rfl
          · intro xv_ wx ρ hρ hwx hd K hK
            have e8 : ρ (.tmp 8) = .pointer (some ⟨q37, 0, none⟩) := (hρ.inn 8 rfl).trans s8
            have h_q37 := keep_below h_q37 hwx
            refine g_loadB rfl e8 Try.isAgg32 Try.sizeOf32 rfl h_q37 ?_
            exact hK _ _ (Below.refl _ _) rfl
          · intro xv_ wx ρ hρ hwx hd K hK
            obtain r11 : xv_ 11 = .agg #[.int .i64 (os[k].f0), .int .i64 (os[k].f1), .string ⟨(os[k].f2).toArray⟩] := hd 11 rfl
            have e64 : ρ (.tmp 64) = .agg #[.int .i64 (os[k].f0), .int .i64 (os[k].f1), .string ⟨(os[k].f2).toArray⟩] := (hρ.out 11 64 rfl (by rw [hs.size]; decide) rfl).trans r11
            refine g_call rfl (hρ.fn _) Try.call25 (arr1 e64) ?_
            refine (packetOk_yes (x := os[k]) _ hxok).mono ?_
            rintro e wy ⟨rfl, hb46⟩
            exact ⟨_, rfl, hK _ _ hb46 rfl⟩
          · intro xv_ wx ρ hρ hwx hd K hK
            obtain r12 : xv_ 12 = .bool true := hd 12 rfl
            have e65 : ρ (.tmp 65) = .bool true := (hρ.out 12 65 rfl (by rw [hs.size]; decide) rfl).trans r12
            refine g_not rfl e65 ?_
            exact hK _ _ (Below.refl _ _) rfl
          · intro xv_ wx ρ hρ hwx hd K hK
            obtain r10 : xv_ 10 = .bool false := hd 10 rfl
            have e63 : ρ (.tmp 63) = .bool false := (hρ.out 10 63 rfl (by rw [hs.size]; decide) rfl).trans r10
            obtain r13 : xv_ 13 = .bool false := hd 13 rfl
            have e66 : ρ (.tmp 66) = .bool false := (hρ.out 13 66 rfl (by rw [hs.size]; decide) rfl).trans r13
            refine g_pick_f rfl e63 e66 ?_
            exact hK _ _ (Below.refl _ _) rfl
        · intro x0_ w47 hb_w47 hr0
          obtain r0 : x0_ 0 = .bool true := hr0 0 (by decide) rfl rfl
          obtain r1 : x0_ 1 = .bool false := hr0 1 (by decide) rfl rfl
          obtain r2 : x0_ 2 = .bool false := hr0 2 (by decide) rfl rfl
          obtain r3 : x0_ 3 = .agg #[.int .i64 (os[k].f0), .int .i64 (os[k].f1), .string ⟨(os[k].f2).toArray⟩] := hr0 3 (by decide) rfl rfl
          obtain r4 : x0_ 4 = .slice O os.length co := hr0 4 (by decide) rfl rfl
          obtain r5 : x0_ 5 = .int .i64 ((k : Nat) : Int) := hr0 5 (by decide) rfl rfl
          obtain r6 : x0_ 6 = .pointer (some ⟨b42, o43 + k * 3, none⟩) := hr0 6 (by decide) rfl rfl
          obtain r7 : x0_ 7 = .agg #[.int .i64 (os[k].f0), .int .i64 (os[k].f1), .string ⟨(os[k].f2).toArray⟩] := hr0 7 (by decide) rfl rfl
          obtain r8 : x0_ 8 = .bool false := hr0 8 (by decide) rfl rfl
          obtain r9 : x0_ 9 = .bool false := hr0 9 (by decide) rfl rfl
          obtain r10 : x0_ 10 = .bool false := hr0 10 (by decide) rfl rfl
          obtain r11 : x0_ 11 = .agg #[.int .i64 (os[k].f0), .int .i64 (os[k].f1), .string ⟨(os[k].f2).toArray⟩] := hr0 11 (by decide) rfl rfl
          obtain r12 : x0_ 12 = .bool true := hr0 12 (by decide) rfl rfl
          obtain r13 : x0_ 13 = .bool false := hr0 13 (by decide) rfl rfl
          obtain r14 : x0_ 14 = .bool false := hr0 14 (by decide) rfl rfl
          clear hr0
          replace h_q37 := keep_below h_q37 hb_w47
          replace o_os := own_below o_os hb_w47
          replace hB := hB.trans (hb_w47.mono hB.size)
          clear hb_w47
          intro xv_ a31 hρ hsz hdf qx_ ql_ qk_ qlk_
          replace s0 : a31.eval (.tmp 0) = .slice A n c := (hρ.inn 0 rfl).trans s0
          replace s2 : a31.eval (.tmp 2) = .bool false := (hρ.inn 2 rfl).trans s2
          replace s3 : a31.eval (.tmp 3) = .slice O os.length co := (hρ.inn 3 rfl).trans s3
          replace s4 : a31.eval (.tmp 4) = .string ⟨(flatP os).toArray⟩ := (hρ.inn 4 rfl).trans s4
          replace s6 : a31.eval (.tmp 6) = .int .i64 ((sAt os k : Nat) : Int) := (hρ.inn 6 rfl).trans s6
          replace s7 : a31.eval (.tmp 7) = .int .i64 ((k : Nat) : Int) := (hρ.inn 7 rfl).trans s7
          replace s8 : a31.eval (.tmp 8) = .pointer (some ⟨q37, 0, none⟩) := (hρ.inn 8 rfl).trans s8
          replace s9 : a31.eval (.tmp 9) = .int .i64 ((4 + os[k].f2.length : Nat) : Int) := (hρ.inn 9 rfl).trans s9
          replace s10 : a31.eval (.tmp 10) = .bool true := (hρ.inn 10 rfl).trans s10
          replace s43 : a31.eval (.tmp 43) = .bool true := (hρ.inn 43 rfl).trans s43
          have s67 : a31.eval (.tmp 67) = .bool false := (hρ.out 14 67 rfl (by rw [hs.size]; decide)).trans ((qx_ 14 (by decide) rfl rfl).trans r14)
          replace hs : St 145 a31 := ⟨hsz.trans hs.size, hdf.trans hs.nodef⟩
          clear hρ hsz hdf qx_ ql_ qk_ qlk_
          refine hK41 _ _ ?_
          clear hK41
          refine c_false s67 ?_
          refine wp_skip ?_
          refine hK40 _ _ ?_
          clear hK40
          refine wp_region_lit ?_
          refine q_val rfl rfl ?_
          refine g_move rfl s6 ?_
          intro a32 p32
          have s68 : a32.eval (.tmp 68) = .int .i64 ((sAt os k : Nat) : Int) := p32.at hs (by decide)
          replace hs := p32.st hs
          refine q_val rfl rfl ?_
          refine g_move rfl ((p32.ne rfl).trans s9) ?_
          intro a33 p33
          have s69 : a33.eval (.tmp 69) = .int .i64 ((4 + os[k].f2.length : Nat) : Int) := p33.at hs (by decide)
          replace hs := p33.st hs
          refine q_val rfl rfl ?_
          refine g_add (r := ((sAt os k : Nat) : Int) + ((4 + os[k].f2.length : Nat) : Int)) rfl ((p33.ne rfl).trans s68) s69 (by omega) (by omega) ?_
          intro a34 p34
          have s70 : a34.eval (.tmp 70) = .int .i64 (((sAt os k : Nat) : Int) + ((4 + os[k].f2.length : Nat) : Int)) := p34.at hs (by decide)
          replace hs := p34.st hs
          refine q_val rfl rfl ?_
          refine g_assign rfl s70 ?_
          intro a35 p35
          have s6 : a35.eval (.tmp 6) = .int .i64 (((sAt os k : Nat) : Int) + ((4 + os[k].f2.length : Nat) : Int)) := p35.at hs (by decide)
          replace hs := p35.st hs
          refine wpList_nil ?_
          replace s0 : a35.eval (.tmp 0) = .slice A n c := ((p35.ne rfl).trans ((p34.ne rfl).trans ((p33.ne rfl).trans (p32.ne rfl)))).trans s0
          replace s2 : a35.eval (.tmp 2) = .bool false := ((p35.ne rfl).trans ((p34.ne rfl).trans ((p33.ne rfl).trans (p32.ne rfl)))).trans s2
          replace s3 : a35.eval (.tmp 3) = .slice O os.length co := ((p35.ne rfl).trans ((p34.ne rfl).trans ((p33.ne rfl).trans (p32.ne rfl)))).trans s3
          replace s4 : a35.eval (.tmp 4) = .string ⟨(flatP os).toArray⟩ := ((p35.ne rfl).trans ((p34.ne rfl).trans ((p33.ne rfl).trans (p32.ne rfl)))).trans s4
          replace s7 : a35.eval (.tmp 7) = .int .i64 ((k : Nat) : Int) := ((p35.ne rfl).trans ((p34.ne rfl).trans ((p33.ne rfl).trans (p32.ne rfl)))).trans s7
          replace s8 : a35.eval (.tmp 8) = .pointer (some ⟨q37, 0, none⟩) := ((p35.ne rfl).trans ((p34.ne rfl).trans ((p33.ne rfl).trans (p32.ne rfl)))).trans s8
          replace s9 : a35.eval (.tmp 9) = .int .i64 ((4 + os[k].f2.length : Nat) : Int) := ((p35.ne rfl).trans ((p34.ne rfl).trans ((p33.ne rfl).trans (p32.ne rfl)))).trans s9
          replace s10 : a35.eval (.tmp 10) = .bool true := ((p35.ne rfl).trans ((p34.ne rfl).trans ((p33.ne rfl).trans (p32.ne rfl)))).trans s10
          replace s43 : a35.eval (.tmp 43) = .bool true := ((p35.ne rfl).trans ((p34.ne rfl).trans ((p33.ne rfl).trans (p32.ne rfl)))).trans s43
          replace s67 : a35.eval (.tmp 67) = .bool false := ((p35.ne rfl).trans ((p34.ne rfl).trans ((p33.ne rfl).trans (p32.ne rfl)))).trans s67
          refine hK33 _ _ ?_
          clear hK33
          refine wp_region_lit ?_
          refine q_val rfl rfl ?_
          refine g_move rfl s7 ?_
          intro a36 p36
          have s44 : a36.eval (.tmp 44) = .int .i64 ((k : Nat) : Int) := p36.at hs (by decide)
          replace hs := p36.st hs
          refine q_val rfl rfl ?_
          refine g_add (r := ((k + 1 : Nat) : Int)) rfl s44 rfl (by omega) (by omega) ?_
          intro a37 p37
          have s45 : a37.eval (.tmp 45) = .int .i64 ((k + 1 : Nat) : Int) := p37.at hs (by decide)
          replace hs := p37.st hs
          refine q_val rfl rfl ?_
          refine g_assign rfl s45 ?_
          intro a38 p38
          have s7 : a38.eval (.tmp 7) = .int .i64 ((k + 1 : Nat) : Int) := p38.at hs (by decide)
          replace hs := p38.st hs
          refine wpList_nil ?_
          replace s0 : a38.eval (.tmp 0) = .slice A n c := ((p38.ne rfl).trans ((p37.ne rfl).trans (p36.ne rfl))).trans s0
          replace s2 : a38.eval (.tmp 2) = .bool false := ((p38.ne rfl).trans ((p37.ne rfl).trans (p36.ne rfl))).trans s2
          replace s3 : a38.eval (.tmp 3) = .slice O os.length co := ((p38.ne rfl).trans ((p37.ne rfl).trans (p36.ne rfl))).trans s3
          replace s4 : a38.eval (.tmp 4) = .string ⟨(flatP os).toArray⟩ := ((p38.ne rfl).trans ((p37.ne rfl).trans (p36.ne rfl))).trans s4
          replace s6 : a38.eval (.tmp 6) = .int .i64 (((sAt os k : Nat) : Int) + ((4 + os[k].f2.length : Nat) : Int)) := ((p38.ne rfl).trans ((p37.ne rfl).trans (p36.ne rfl))).trans s6
          replace s8 : a38.eval (.tmp 8) = .pointer (some ⟨q37, 0, none⟩) := ((p38.ne rfl).trans ((p37.ne rfl).trans (p36.ne rfl))).trans s8
          replace s9 : a38.eval (.tmp 9) = .int .i64 ((4 + os[k].f2.length : Nat) : Int) := ((p38.ne rfl).trans ((p37.ne rfl).trans (p36.ne rfl))).trans s9
          replace s10 : a38.eval (.tmp 10) = .bool true := ((p38.ne rfl).trans ((p37.ne rfl).trans (p36.ne rfl))).trans s10
          replace s43 : a38.eval (.tmp 43) = .bool true := ((p38.ne rfl).trans ((p37.ne rfl).trans (p36.ne rfl))).trans s43
          replace s67 : a38.eval (.tmp 67) = .bool false := ((p38.ne rfl).trans ((p37.ne rfl).trans (p36.ne rfl))).trans s67
          refine show _ ∧ _ from ⟨⟨k + 1, hs, s0, s2, s3, s4, (Eq.trans s6 (congrArg (Value.int .i64) (by have h9 := sAt_next os hlt; omega))), s7, hB, o_os, hlt⟩, ?_⟩
          show os.length - (intOf (a38.eval (.tmp 7))).toNat < os.length - (intOf (a16.eval (.tmp 7))).toNat
          rw [s7, mu29]
          simp only [intOf]
          omega
      · replace s43 := s43.trans (congrArg Value.bool (decide_eq_false hc32))
        replace s43 : a20.eval (.tmp 43) = .bool false := s43
        refine c_false s43 ?_
        refine wp_exit ?_
        refine hK25 _ _ ?_
        clear hK25
        refine wp_seq_k fun K48 hK48 => ?_
        have hkz : k = os.length := by omega
        subst hkz
        have hs9 : sAt os os.length = (flatP os).length := by unfold sAt; rw [List.take_length]
        have h0 : 0 < os.length := by omega
        have hxok : pkOk os[0] = true := (hD _ (List.getElem_mem h0)).1
        have ha0 := atN_le bs 0
        have hx40 := (pkOk_parts hxok).2.2
        have hP1f : (flatP [os[0]]).length = os[0].f2.length + 4 := by rw [flatP_one, pkB_len]
        obtain ⟨b49, o50, hA51, hl_hc52, hc52⟩ := Rd.get cPacket_len (Rd.of_own o_os) rfl (i := 0) (by omega)
        refine wp_drawn (n := 145) [9, 12] [11] [] (fun k_ v_ wx => match k_ with | 0 => v_ = .slice A n c | 1 => v_ = .int .i64 ((atN bs (0) : Nat) : Int) | 2 => v_ = .agg #[.int .i64 0, .int .i64 ((atN bs (0) : Nat) : Int), .string ⟨#[]⟩, .slice none 0 0] | 3 => v_ = .slice O os.length co | 4 => v_ = .pointer (some ⟨b49, o50 + 0 * 3, none⟩) | 5 => v_ = .agg #[.int .i64 (os[0].f0), .int .i64 (os[0].f1), .string ⟨(os[0].f2).toArray⟩] | 6 => ∃ (A53 : Option Addr) (c53 : Nat), v_ = .tuple #[.agg #[.int .i64 0, .int .i64 ((atN bs (0) : Nat) : Int), .string ⟨((flatP [os[0]]).drop 0).toArray⟩, .slice A53 ((dsAt [os[0]] 0).length) c53], .bool true] ∧ ((wx).ownsRow w28.heap.size 3 1 (.slice A53 ((dsAt [os[0]] 0).length) c53) ((dsAt [os[0]] 0).length) ((dsAt [os[0]] 0).flatMap cI)) | 7 => ∃ (A_r54 : Option Addr) (c_r54 : Nat), v_ = .tuple #[.agg #[.int .i64 0, .int .i64 ((atN bs (0) : Nat) : Int), .string ⟨((flatP [os[0]]).drop 0).toArray⟩, .slice A_r54 ((dsAt [os[0]] 0).length) c_r54], .bool true] ∧ ((wx).ownsRow w28.heap.size 3 1 (.slice A_r54 ((dsAt [os[0]] 0).length) c_r54) ((dsAt [os[0]] 0).length) ((dsAt [os[0]] 0).flatMap cI)) | 8 => ∃ (A_r55 : Option Addr) (c_r55 : Nat), v_ = .agg #[.int .i64 0, .int .i64 ((atN bs (0) : Nat) : Int), .string ⟨((flatP [os[0]]).drop 0).toArray⟩, .slice A_r55 ((dsAt [os[0]] 0).length) c_r55] ∧ ((wx).ownsRow w28.heap.size 3 1 (.slice A_r55 ((dsAt [os[0]] 0).length) c_r55) ((dsAt [os[0]] 0).length) ((dsAt [os[0]] 0).flatMap cI)) | 9 => v_ = .bool true | 10 => ∃ q56, v_ = .pointer (some ⟨q56, 0, none⟩) ∧ w28.heap.size ≤ q56 ∧ wx.heap[q56]? = some (.cells #[.int .i64 0, .int .i64 0, .string ⟨#[]⟩, .slice none 0 0] 28 (0, 0)) | 12 => v_ = .bool true | _ => True) (by kernel_rfl) (by kernel_rfl) (by kernel_rfl) (by kernel_rfl) hs.size ?_ ?_ ?_
        · intro i v wa wb hb hr
          rcases i with _ | _ | _ | _ | _ | _ | _ | _ | _ | _ | _ | _ | _ | i
          · exact hr
          · exact hr
          · exact hr
          · exact hr
          · exact hr
          · exact hr
          · obtain ⟨A53, c53, hr, o_x53⟩ := hr; exact ⟨A53, c53, hr, own_below o_x53 hb⟩
          · obtain ⟨A_r54, c_r54, hr, o_r54⟩ := hr; exact ⟨A_r54, c_r54, hr, own_below o_r54 hb⟩
          · obtain ⟨A_r55, c_r55, hr, o_r55⟩ := hr; exact ⟨A_r55, c_r55, hr, own_below o_r55 hb⟩
          · exact hr
          · obtain ⟨q56, hr, hg, hh⟩ := hr; exact ⟨q56, hr, hg, keep_below hh hb⟩
          · trivial
          · exact hr
          · trivial
        · refine d_step rfl rfl ?_ (d_step rfl rfl ?_ (d_step rfl rfl ?_ (d_step rfl rfl ?_ (d_step rfl rfl ?_ (d_step rfl rfl ?_ (d_step rfl rfl ?_ (d_step rfl rfl ?_ (d_step rfl rfl ?_ (d_late rfl rfl ?_ (d_step rfl rfl ?_ (d_chain rfl (d_late rfl rfl ?_ (d_nil)))))))))))))
          · intro xv_ wx ρ hρ hwx hd K hK
            have e0 : ρ (.tmp 0) = .slice A n c := (hρ.inn 0 rfl).trans s0
            refine g_move rfl e0 ?_
            exact hK _ _ (Below.refl _ _) rfl
          · intro xv_ wx ρ hρ hwx hd K hK
            obtain r0 : xv_ 0 = .slice A n c := hd 0 rfl
            have e72 : ρ (.tmp 72) = .slice A n c := (hρ.out 0 72 rfl (by rw [hs.size]; decide) rfl).trans r0
            refine g_call rfl (hρ.fn _) Try.call12 (arr2 e72 (hρ.cst _)) ?_
            refine (at_nat hlen hnc hcm ((hr_cc.below hB).below hwx) 0 (by omega)).mono ?_
            rintro e w' ⟨rfl, rfl⟩
            exact ⟨_, rfl, hK _ _ (Below.refl _ _) rfl⟩
          · intro xv_ wx ρ hρ hwx hd K hK
            obtain r1 : xv_ 1 = .int .i64 ((atN bs (0) : Nat) : Int) := hd 1 rfl
            have e73 : ρ (.tmp 73) = .int .i64 ((atN bs (0) : Nat) : Int) := (hρ.out 1 73 rfl (by rw [hs.size]; decide) rfl).trans r1
            refine g_build (cells := #[.int .i64 0, .int .i64 ((atN bs (0) : Nat) : Int), .string ⟨#[]⟩, .slice none 0 0]) rfl (arrB1 e73) (by kernel_rfl) ?_
            exact hK _ _ (Below.refl _ _) rfl
          · intro xv_ wx ρ hρ hwx hd K hK
            have e3 : ρ (.tmp 3) = .slice O os.length co := (hρ.inn 3 rfl).trans s3
            refine g_move rfl e3 ?_
            exact hK _ _ (Below.refl _ _) rfl
          · intro xv_ wx ρ hρ hwx hd K hK
            obtain r3 : xv_ 3 = .slice O os.length co := hd 3 rfl
            have e75 : ρ (.tmp 75) = .slice O os.length co := (hρ.out 3 75 rfl (by rw [hs.size]; decide) rfl).trans r3
            refine g_index (r := o50 + 0 * 3) (k := 0) rfl (e75.trans (slice_at hA51)) ((hρ.cst _)) Try.underlying24 (fun w => Try.sizeOf32 w) (by omega) rfl ?_
            exact hK _ _ (Below.refl _ _) rfl
          · intro xv_ wx ρ hρ hwx hd K hK
            obtain r4 : xv_ 4 = .pointer (some ⟨b49, o50 + 0 * 3, none⟩) := hd 4 rfl
            have e76 : ρ (.tmp 76) = .pointer (some ⟨b49, o50 + 0 * 3, none⟩) := (hρ.out 4 76 rfl (by rw [hs.size]; decide) rfl).trans r4
            have hc52 := elem_below hc52 hwx hl_hc52
            refine g_loadA (l := cPacket os[0]) rfl e76 Try.isAgg32 Try.sizeOf32 rfl (fun j u hu => by rw [Nat.add_assoc]; exact hc52 j u (by have := (List.getElem?_eq_some_iff.1 hu).1; exact this) hu) ?_
            exact hK _ _ (Below.refl _ _) rfl
          · intro xv_ wx ρ hρ hwx hd K hK
            obtain r2 : xv_ 2 = .agg #[.int .i64 0, .int .i64 ((atN bs (0) : Nat) : Int), .string ⟨#[]⟩, .slice none 0 0] := hd 2 rfl
            have e74 : ρ (.tmp 74) = .agg #[.int .i64 0, .int .i64 ((atN bs (0) : Nat) : Int), .string ⟨#[]⟩, .slice none 0 0] := (hρ.out 2 74 rfl (by rw [hs.size]; decide) rfl).trans r2
            obtain r5 : xv_ 5 = .agg #[.int .i64 (os[0].f0), .int .i64 (os[0].f1), .string ⟨(os[0].f2).toArray⟩] := hd 5 rfl
            have e77 : ρ (.tmp 77) = .agg #[.int .i64 (os[0].f0), .int .i64 (os[0].f1), .string ⟨(os[0].f2).toArray⟩] := (hρ.out 5 77 rfl (by rw [hs.size]; decide) rfl).trans r5
            refine g_call rfl (hρ.fn _) Try.call9 (arr2 e74 e77) ?_
            refine (packPacket_at (P := []) (P' := [os[0]]) (n := 0) (x := os[0]) hxok (Nat.zero_le _) (by simp [flatP]) (by omega) (Nat.zero_le _) rfl rfl (fun _ => ⟨rfl, rfl⟩) (Rd.of_own (World.ownsRow_nil _ 0 3 1))).mono ?_
            rintro e wy ⟨A53, c53, rfl, o_x53, hb53⟩
            exact ⟨_, rfl, hK _ _ hb53 ⟨A53, c53, rfl, own_base o_x53 hwx.size⟩⟩
          · intro xv_ wx ρ hρ hwx hd K hK
            obtain ⟨A53, c53, r6, o_x53⟩ : ∃ (A53 : Option Addr) (c53 : Nat), xv_ 6 = .tuple #[.agg #[.int .i64 0, .int .i64 ((atN bs (0) : Nat) : Int), .string ⟨((flatP [os[0]]).drop 0).toArray⟩, .slice A53 ((dsAt [os[0]] 0).length) c53], .bool true] ∧ ((wx).ownsRow w28.heap.size 3 1 (.slice A53 ((dsAt [os[0]] 0).length) c53) ((dsAt [os[0]] 0).length) ((dsAt [os[0]] 0).flatMap cI)) := hd 6 rfl
            have e78 : ρ (.tmp 78) = .tuple #[.agg #[.int .i64 0, .int .i64 ((atN bs (0) : Nat) : Int), .string ⟨((flatP [os[0]]).drop 0).toArray⟩, .slice A53 ((dsAt [os[0]] 0).length) c53], .bool true] := (hρ.out 6 78 rfl (by rw [hs.size]; decide) rfl).trans r6
            refine g_move rfl e78 ?_
            exact hK _ _ (Below.refl _ _) ⟨A53, c53, rfl, o_x53⟩
          · intro xv_ wx ρ hρ hwx hd K hK
            obtain ⟨A_r54, c_r54, r7, o_r54⟩ : ∃ (A_r54 : Option Addr) (c_r54 : Nat), xv_ 7 = .tuple #[.agg #[.int .i64 0, .int .i64 ((atN bs (0) : Nat) : Int), .string ⟨((flatP [os[0]]).drop 0).toArray⟩, .slice A_r54 ((dsAt [os[0]] 0).length) c_r54], .bool true] ∧ ((wx).ownsRow w28.heap.size 3 1 (.slice A_r54 ((dsAt [os[0]] 0).length) c_r54) ((dsAt [os[0]] 0).length) ((dsAt [os[0]] 0).flatMap cI)) := hd 7 rfl
            have e71 : ρ (.tmp 71) = .tuple #[.agg #[.int .i64 0, .int .i64 ((atN bs (0) : Nat) : Int), .string ⟨((flatP [os[0]]).drop 0).toArray⟩, .slice A_r54 ((dsAt [os[0]] 0).length) c_r54], .bool true] := (hρ.out 7 71 rfl (by rw [hs.size]; decide) rfl).trans r7
            refine g_extract rfl e71 rfl ?_
            exact hK _ _ (Below.refl _ _) ⟨A_r54, c_r54, rfl, o_r54⟩
          · intro xv_ wx ρ hρ hwx hd
            obtain ⟨A_r54, c_r54, r7, o_r54⟩ : ∃ (A_r54 : Option Addr) (c_r54 : Nat), xv_ 7 = .tuple #[.agg #[.int .i64 0, .int .i64 ((atN bs (0) : Nat) : Int), .string ⟨((flatP [os[0]]).drop 0).toArray⟩, .slice A_r54 ((dsAt [os[0]] 0).length) c_r54], .bool true] ∧ ((wx).ownsRow w28.heap.size 3 1 (.slice A_r54 ((dsAt [os[0]] 0).length) c_r54) ((dsAt [os[0]] 0).length) ((dsAt [os[0]] 0).flatMap cI)) := hd 7 rfl rfl
            have e71 : ρ (.tmp 71) = .tuple #[.agg #[.int .i64 0, .int .i64 ((atN bs (0) : Nat) : Int), .string ⟨((flatP [os[0]]).drop 0).toArray⟩, .slice A_r54 ((dsAt [os[0]] 0).length) c_r54], .bool true] := (hρ.out 7 71 rfl (by rw [hs.size]; decide) rfl).trans r7
            exact ⟨_, fun w' => l_extract rfl e71 rfl, rfl⟩
          · intro xv_ wx ρ hρ hwx hd K hK
            refine g_alloc rfl Try.zeroValue28 rfl ?_
            intro q w' N
            exact hK _ _ N.below ⟨q, rfl, Nat.le_trans hwx.size N.lo, N.here⟩
          · intro xv_ wx ρ hρ hwx hd
            obtain r9 : xv_ 9 = .bool true := hd 9 rfl rfl
            have e80 : ρ (.tmp 80) = .bool true := (hρ.out 9 80 rfl (by rw [hs.size]; decide) rfl).trans r9
            exact ⟨_, fun w' => l_assign rfl e80, rfl⟩
        · intro x0_ w57 hb_w57 hr0
          obtain r0 : x0_ 0 = .slice A n c := hr0 0 (by decide) rfl rfl
          obtain r1 : x0_ 1 = .int .i64 ((atN bs (0) : Nat) : Int) := hr0 1 (by decide) rfl rfl
          obtain r2 : x0_ 2 = .agg #[.int .i64 0, .int .i64 ((atN bs (0) : Nat) : Int), .string ⟨#[]⟩, .slice none 0 0] := hr0 2 (by decide) rfl rfl
          obtain r3 : x0_ 3 = .slice O os.length co := hr0 3 (by decide) rfl rfl
          obtain r4 : x0_ 4 = .pointer (some ⟨b49, o50 + 0 * 3, none⟩) := hr0 4 (by decide) rfl rfl
          obtain r5 : x0_ 5 = .agg #[.int .i64 (os[0].f0), .int .i64 (os[0].f1), .string ⟨(os[0].f2).toArray⟩] := hr0 5 (by decide) rfl rfl
          obtain ⟨A53, c53, r6, o_x53⟩ : ∃ (A53 : Option Addr) (c53 : Nat), x0_ 6 = .tuple #[.agg #[.int .i64 0, .int .i64 ((atN bs (0) : Nat) : Int), .string ⟨((flatP [os[0]]).drop 0).toArray⟩, .slice A53 ((dsAt [os[0]] 0).length) c53], .bool true] ∧ ((w57).ownsRow w28.heap.size 3 1 (.slice A53 ((dsAt [os[0]] 0).length) c53) ((dsAt [os[0]] 0).length) ((dsAt [os[0]] 0).flatMap cI)) := hr0 6 (by decide) rfl rfl
          obtain ⟨A_r54, c_r54, r7, o_r54⟩ : ∃ (A_r54 : Option Addr) (c_r54 : Nat), x0_ 7 = .tuple #[.agg #[.int .i64 0, .int .i64 ((atN bs (0) : Nat) : Int), .string ⟨((flatP [os[0]]).drop 0).toArray⟩, .slice A_r54 ((dsAt [os[0]] 0).length) c_r54], .bool true] ∧ ((w57).ownsRow w28.heap.size 3 1 (.slice A_r54 ((dsAt [os[0]] 0).length) c_r54) ((dsAt [os[0]] 0).length) ((dsAt [os[0]] 0).flatMap cI)) := hr0 7 (by decide) rfl rfl
          obtain ⟨A_r55, c_r55, r8, o_r55⟩ : ∃ (A_r55 : Option Addr) (c_r55 : Nat), x0_ 8 = .agg #[.int .i64 0, .int .i64 ((atN bs (0) : Nat) : Int), .string ⟨((flatP [os[0]]).drop 0).toArray⟩, .slice A_r55 ((dsAt [os[0]] 0).length) c_r55] ∧ ((w57).ownsRow w28.heap.size 3 1 (.slice A_r55 ((dsAt [os[0]] 0).length) c_r55) ((dsAt [os[0]] 0).length) ((dsAt [os[0]] 0).flatMap cI)) := hr0 8 (by decide) rfl rfl
          obtain ⟨q56, r10, g0_q56, h_q56⟩ : ∃ q56, x0_ 10 = .pointer (some ⟨q56, 0, none⟩) ∧ w28.heap.size ≤ q56 ∧ w57.heap[q56]? = some (.cells #[.int .i64 0, .int .i64 0, .string ⟨#[]⟩, .slice none 0 0] 28 (0, 0)) := hr0 10 (by decide) rfl rfl
          clear hr0
          have m_os_r55 := own_ne_row o_os o_r55 (Nat.le_refl _)
          have m_r55_os := ne_row_symm m_os_r55
          have g_r55 : ∀ b, (A_r55 : Option Addr).map (·.block) = some b → w.heap.size ≤ b := fun b h => Nat.le_trans hB.size (own_row o_r55 b h).1
          replace o_r55 := own_base (base := w.heap.size) o_r55 hB.size
          have d_os_q56 := own_ne o_os (.inr g0_q56)
          have g_q56 : GeB w.heap.size q56 := ⟨Nat.le_trans hB.size g0_q56⟩
          clear g0_q56
          have d_r55_q56 := own_ne_cells o_r55 h_q56 (by decide)
          replace o_os := own_below o_os hb_w57
          replace hB := hB.trans (hb_w57.mono hB.size)
          clear hb_w57
          intro op_ ho_ xv_ ρ hρ qx_ ql_ qk_
          obtain rfl := Option.some.inj ho_
          clear ho_
          have e11 : ρ (.tmp 11) = .pointer (some ⟨q56, 0, none⟩) := (hρ.out 10 11 rfl (by rw [hs.size]; decide) rfl).trans ((qx_ 10 (by decide) rfl rfl).trans r10)
          have e79 : ρ (.tmp 79) = .agg #[.int .i64 0, .int .i64 ((atN bs (0) : Nat) : Int), .string ⟨((flatP [os[0]]).drop 0).toArray⟩, .slice A_r55 ((dsAt [os[0]] 0).length) c_r55] := (hρ.out 8 79 rfl (by rw [hs.size]; decide) rfl).trans ((qx_ 8 (by decide) rfl rfl).trans r8)
          refine g_storeB rfl e11 e79 Try.sizeOf28 rfl rfl h_q56 rfl ?_
          intro w58 W_w58
          replace h_q56 := W_w58.here
          replace o_os := own_wrote o_os W_w58 d_os_q56
          replace o_r55 := own_wrote o_r55 W_w58 d_r55_q56
          replace hB := below_wrote hB hB.size W_w58 g_q56.le
          clear W_w58
          clear e11 e79
          clear hρ qx_ ql_ qk_
          intro xv_ a21 hρ hsz hdf qx_ ql_ qk_ qlk_
          replace s0 : a21.eval (.tmp 0) = .slice A n c := (hρ.inn 0 rfl).trans s0
          replace s2 : a21.eval (.tmp 2) = .bool false := (hρ.inn 2 rfl).trans s2
          replace s4 : a21.eval (.tmp 4) = .string ⟨(flatP os).toArray⟩ := (hρ.inn 4 rfl).trans s4
          replace s6 : a21.eval (.tmp 6) = .int .i64 ((sAt os os.length : Nat) : Int) := (hρ.inn 6 rfl).trans s6
          have s11 : a21.eval (.tmp 11) = .pointer (some ⟨q56, 0, none⟩) := (hρ.out 10 11 rfl (by rw [hs.size]; decide)).trans ((qx_ 10 (by decide) rfl rfl).trans r10)
          replace hs : St 145 a21 := ⟨hsz.trans hs.size, hdf.trans hs.nodef⟩
          clear hρ hsz hdf qx_ ql_ qk_ qlk_
          refine hK48 _ _ ?_
          clear hK48
          refine wp_seq_k fun K59 hK59 => ?_
          refine wp_region_lit ?_
          refine q_val rfl rfl ?_
          refine g_loadB rfl s11 Try.isAgg28 Try.sizeOf28 rfl h_q56 ?_
          intro a22 p22
          have s82 : a22.eval (.tmp 82) = .agg #[.int .i64 0, .int .i64 ((atN bs (0) : Nat) : Int), .string ⟨((flatP [os[0]]).drop 0).toArray⟩, .slice A_r55 ((dsAt [os[0]] 0).length) c_r55] := p22.at hs (by decide)
          replace hs := p22.st hs
          refine q_val rfl rfl ?_
          refine g_call rfl rfl Try.call11 (arr1 s82) ?_
          refine (fillPacker_at (P := [os[0]]) (n := 0) (Nat.zero_le _) (by omega) (by omega) (by simp) rfl (own_nil o_r55) (Rd.of_own o_r55)).mono ?_
          rintro e w61 ⟨I60, A60, c60, rfl, o_x60, hi1, hi2, hi3, hb60⟩
          refine ⟨_, rfl, ?_⟩
          have d_x60_q56 := own_ne_box o_x60 (lt_of_block h_q56)
          have m_os_x60 := own_ne_row o_os o_x60 (Nat.le_refl _)
          have m_x60_os := ne_row_symm m_os_x60
          have m_r55_x60 := own_ne_row o_r55 o_x60 (Nat.le_refl _)
          have m_x60_r55 := ne_row_symm m_r55_x60
          have g_x60 : ∀ b, (A60 : Option Addr).map (·.block) = some b → w.heap.size ≤ b := fun b h => Nat.le_trans hB.size (own_row o_x60 b h).1
          replace o_x60 := own_base (base := w.heap.size) o_x60 hB.size
          replace h_q56 := keep_below h_q56 hb60
          replace o_os := own_below o_os hb60
          replace o_r55 := own_below o_r55 hb60
          replace hB := hB.trans (hb60.mono hB.size)
          clear hb60
          have hil := flatP_len4 ([os[0]] ++ I60)
          have hPo : (flatP [os[0]]).length ≤ (flatP ([os[0]] ++ I60)).length := by rw [flatP_append, List.length_append]; omega
          have hP24 : 24 ≤ (flatP ([os[0]] ++ I60)).length := by omega
          clear hi2
          obtain ⟨f, hf⟩ : ∃ f, frAt ([os[0]] ++ I60) ((atN bs 0 : Nat) : Int) 0 = f := ⟨_, rfl⟩
          have hfo : frOk f = true := by rw [← hf]; exact frAt_ok (by omega) (by omega)
          have hfp := (frOk_parts hfo).2.2.2
          have hel := encF_len hfo
          intro a23 p23
          have s83 : a23.eval (.tmp 83) = .agg #[.int .i64 0, .int .i64 ((atN bs (0) : Nat) : Int), .string ⟨((flatP ([os[0]] ++ I60)).drop 0).toArray⟩, .slice A60 ((dsAt ([os[0]] ++ I60) 0).length) c60] := p23.at hs (by decide)
          replace hs := p23.st hs
          refine q_val rfl rfl ?_
          refine g_call rfl rfl Try.call26 (arr1 s83) ?_
          refine (takeFrame_at (P := ([os[0]] ++ I60)) hf (by omega) hP24 (by omega) (by omega) rfl (own_nil o_x60) (Rd.of_own o_x60)).mono ?_
          rintro e w63 ⟨ct62, r62, A62, n62, c62, es62, rfl, o_x62, hb62⟩
          refine ⟨_, rfl, ?_⟩
          have d_x62_q56 := own_ne_box o_x62 (lt_of_block h_q56)
          have m_os_x62 := own_ne_row o_os o_x62 (Nat.le_refl _)
          have m_x62_os := ne_row_symm m_os_x62
          have m_r55_x62 := own_ne_row o_r55 o_x62 (Nat.le_refl _)
          have m_x62_r55 := ne_row_symm m_r55_x62
          have m_x60_x62 := own_ne_row o_x60 o_x62 (Nat.le_refl _)
          have m_x62_x60 := ne_row_symm m_x60_x62
          have g_x62 : ∀ b, (A62 : Option Addr).map (·.block) = some b → w.heap.size ≤ b := fun b h => Nat.le_trans hB.size (own_row o_x62 b h).1
          replace o_x62 := own_base (base := w.heap.size) o_x62 hB.size
          replace h_q56 := keep_below h_q56 hb62
          replace o_os := own_below o_os hb62
          replace o_r55 := own_below o_r55 hb62
          replace o_x60 := own_below o_x60 hb62
          replace hB := hB.trans (hb62.mono hB.size)
          clear hb62
          intro a24 p24
          have s84 : a24.eval (.tmp 84) = .tuple #[.agg #[.int .i64 0, .int .i64 ct62, .string ⟨(r62).toArray⟩, .slice A62 n62 c62], .agg #[.int .i64 f.f0, .int .i64 f.f1, .int .i64 f.f2, .string ⟨(f.f3).toArray⟩], .bool true] := p24.at hs (by decide)
          replace hs := p24.st hs
          refine q_val rfl rfl ?_
          refine g_move rfl s84 ?_
          intro a25 p25
          have s81 : a25.eval (.tmp 81) = .tuple #[.agg #[.int .i64 0, .int .i64 ct62, .string ⟨(r62).toArray⟩, .slice A62 n62 c62], .agg #[.int .i64 f.f0, .int .i64 f.f1, .int .i64 f.f2, .string ⟨(f.f3).toArray⟩], .bool true] := p25.at hs (by decide)
          replace hs := p25.st hs
          refine q_val rfl rfl ?_
          refine g_extract rfl s81 rfl ?_
          intro a26 p26
          have s85 : a26.eval (.tmp 85) = .agg #[.int .i64 0, .int .i64 ct62, .string ⟨(r62).toArray⟩, .slice A62 n62 c62] := p26.at hs (by decide)
          replace hs := p26.st hs
          refine q_val rfl rfl ?_
          refine g_extract rfl ((p26.ne rfl).trans s81) rfl ?_
          intro a27 p27
          have s86 : a27.eval (.tmp 86) = .agg #[.int .i64 f.f0, .int .i64 f.f1, .int .i64 f.f2, .string ⟨(f.f3).toArray⟩] := p27.at hs (by decide)
          replace hs := p27.st hs
          refine q_val rfl rfl ?_
          refine g_extract rfl (((p27.ne rfl).trans (p26.ne rfl)).trans s81) rfl ?_
          intro a28 p28
          have s87 : a28.eval (.tmp 87) = .bool true := p28.at hs (by decide)
          replace hs := p28.st hs
          refine q_val rfl rfl ?_
          refine g_alloc rfl Try.zeroValue28 rfl ?_
          intro q64 w65 N_q64
          have n_q56_q64 := N_q64.ne ⟨lt_of_block h_q56⟩
          have n_q64_q56 := n_q56_q64.symm
          have d_os_q64 := own_ne_new o_os N_q64
          have d_r55_q64 := own_ne_new o_r55 N_q64
          have d_x60_q64 := own_ne_new o_x60 N_q64
          have d_x62_q64 := own_ne_new o_x62 N_q64
          have g_q64 : GeB w.heap.size q64 := ⟨Nat.le_trans hB.size N_q64.lo⟩
          replace h_q56 := keep_below h_q56 N_q64.below
          replace o_os := own_below o_os N_q64.below
          replace o_r55 := own_below o_r55 N_q64.below
          replace o_x60 := own_below o_x60 N_q64.below
          replace o_x62 := own_below o_x62 N_q64.below
          replace hB := below_new hB hB.size N_q64
          have h_q64 := N_q64.here
          clear N_q64
          intro a29 p29
          have s13 : a29.eval (.tmp 13) = .pointer (some ⟨q64, 0, none⟩) := p29.at hs (by decide)
          replace hs := p29.st hs
          refine q_val rfl rfl ?_
          refine g_alloc rfl Try.zeroValue40 rfl ?_
          intro q66 w67 N_q66
          have n_q56_q66 := N_q66.ne ⟨lt_of_block h_q56⟩
          have n_q66_q56 := n_q56_q66.symm
          have n_q64_q66 := N_q66.ne ⟨lt_of_block h_q64⟩
          have n_q66_q64 := n_q64_q66.symm
          have d_os_q66 := own_ne_new o_os N_q66
          have d_r55_q66 := own_ne_new o_r55 N_q66
          have d_x60_q66 := own_ne_new o_x60 N_q66
          have d_x62_q66 := own_ne_new o_x62 N_q66
          have g_q66 : GeB w.heap.size q66 := ⟨Nat.le_trans hB.size N_q66.lo⟩
          replace h_q56 := keep_below h_q56 N_q66.below
          replace h_q64 := keep_below h_q64 N_q66.below
          replace o_os := own_below o_os N_q66.below
          replace o_r55 := own_below o_r55 N_q66.below
          replace o_x60 := own_below o_x60 N_q66.below
          replace o_x62 := own_below o_x62 N_q66.below
          replace hB := below_new hB hB.size N_q66
          have h_q66 := N_q66.here
          clear N_q66
          intro a30 p30
          have s14 : a30.eval (.tmp 14) = .pointer (some ⟨q66, 0, none⟩) := p30.at hs (by decide)
          replace hs := p30.st hs
          refine q_eff rfl rfl ?_
          refine g_storeB rfl ((p30.ne rfl).trans s13) (((p30.ne rfl).trans ((p29.ne rfl).trans ((p28.ne rfl).trans (p27.ne rfl)))).trans s85) Try.sizeOf28 rfl rfl h_q64 rfl ?_
          intro w68 W_w68
          replace h_q56 := keep_wrote h_q56 W_w68 n_q64_q56
          replace h_q64 := W_w68.here
          replace h_q66 := keep_wrote h_q66 W_w68 n_q64_q66
          replace o_os := own_wrote o_os W_w68 d_os_q64
          replace o_r55 := own_wrote o_r55 W_w68 d_r55_q64
          replace o_x60 := own_wrote o_x60 W_w68 d_x60_q64
          replace o_x62 := own_wrote o_x62 W_w68 d_x62_q64
          replace hB := below_wrote hB hB.size W_w68 g_q64.le
          clear W_w68
          refine q_eff rfl rfl ?_
          refine g_storeB rfl s14 (((p30.ne rfl).trans ((p29.ne rfl).trans (p28.ne rfl))).trans s86) Try.sizeOf40 rfl rfl h_q66 rfl ?_
          intro w69 W_w69
          replace h_q56 := keep_wrote h_q56 W_w69 n_q66_q56
          replace h_q64 := keep_wrote h_q64 W_w69 n_q66_q64
          replace h_q66 := W_w69.here
          replace o_os := own_wrote o_os W_w69 d_os_q66
          replace o_r55 := own_wrote o_r55 W_w69 d_r55_q66
          replace o_x60 := own_wrote o_x60 W_w69 d_x60_q66
          replace o_x62 := own_wrote o_x62 W_w69 d_x62_q66
          replace hB := below_wrote hB hB.size W_w69 g_q66.le
          clear W_w69
          refine q_val rfl rfl ?_
          refine g_assign rfl (((p30.ne rfl).trans (p29.ne rfl)).trans s87) ?_
          intro a31 p31
          have s15 : a31.eval (.tmp 15) = .bool true := p31.at hs (by decide)
          replace hs := p31.st hs
          refine wpList_nil ?_
          replace s0 : a31.eval (.tmp 0) = .slice A n c := ((p31.ne rfl).trans ((p30.ne rfl).trans ((p29.ne rfl).trans ((p28.ne rfl).trans ((p27.ne rfl).trans ((p26.ne rfl).trans ((p25.ne rfl).trans ((p24.ne rfl).trans ((p23.ne rfl).trans (p22.ne rfl)))))))))).trans s0
          replace s2 : a31.eval (.tmp 2) = .bool false := ((p31.ne rfl).trans ((p30.ne rfl).trans ((p29.ne rfl).trans ((p28.ne rfl).trans ((p27.ne rfl).trans ((p26.ne rfl).trans ((p25.ne rfl).trans ((p24.ne rfl).trans ((p23.ne rfl).trans (p22.ne rfl)))))))))).trans s2
          replace s4 : a31.eval (.tmp 4) = .string ⟨(flatP os).toArray⟩ := ((p31.ne rfl).trans ((p30.ne rfl).trans ((p29.ne rfl).trans ((p28.ne rfl).trans ((p27.ne rfl).trans ((p26.ne rfl).trans ((p25.ne rfl).trans ((p24.ne rfl).trans ((p23.ne rfl).trans (p22.ne rfl)))))))))).trans s4
          replace s6 : a31.eval (.tmp 6) = .int .i64 ((sAt os os.length : Nat) : Int) := ((p31.ne rfl).trans ((p30.ne rfl).trans ((p29.ne rfl).trans ((p28.ne rfl).trans ((p27.ne rfl).trans ((p26.ne rfl).trans ((p25.ne rfl).trans ((p24.ne rfl).trans ((p23.ne rfl).trans (p22.ne rfl)))))))))).trans s6
          replace s14 : a31.eval (.tmp 14) = .pointer (some ⟨q66, 0, none⟩) := (p31.ne rfl).trans s14
          refine hK59 _ _ ?_
          clear hK59
          refine wp_seq_k fun K70 hK70 => ?_
          refine wp_region_lit ?_
          refine q_val rfl rfl ?_
          refine g_loadB rfl s14 Try.isAgg40 Try.sizeOf40 rfl h_q66 ?_
          intro a32 p32
          have s88 : a32.eval (.tmp 88) = .agg #[.int .i64 f.f0, .int .i64 f.f1, .int .i64 f.f2, .string ⟨(f.f3).toArray⟩] := p32.at hs (by decide)
          replace hs := p32.st hs
          refine q_val rfl rfl ?_
          refine g_call rfl rfl Try.call27 (arr1 s88) ?_
          refine (encodeFrame_any (x := f) _ (by unfold Txt; omega)).mono ?_
          rintro e w72 ⟨rfl, hb71⟩
          refine ⟨_, rfl, ?_⟩
          replace h_q56 := keep_below h_q56 hb71
          replace h_q64 := keep_below h_q64 hb71
          replace h_q66 := keep_below h_q66 hb71
          replace o_os := own_below o_os hb71
          replace o_r55 := own_below o_r55 hb71
          replace o_x60 := own_below o_x60 hb71
          replace o_x62 := own_below o_x62 hb71
          replace hB := hB.trans (hb71.mono hB.size)
          clear hb71
          intro a33 p33
          have s89 : a33.eval (.tmp 89) = .string ⟨(encF f).toArray⟩ := p33.at hs (by decide)
          replace hs := p33.st hs
          refine q_val rfl rfl ?_
          refine g_assign rfl s89 ?_
          intro a34 p34
          have s16 : a34.eval (.tmp 16) = .string ⟨(encF f).toArray⟩ := p34.at hs (by decide)
          replace hs := p34.st hs
          refine wpList_nil ?_
          replace s0 : a34.eval (.tmp 0) = .slice A n c := ((p34.ne rfl).trans ((p33.ne rfl).trans (p32.ne rfl))).trans s0
          replace s2 : a34.eval (.tmp 2) = .bool false := ((p34.ne rfl).trans ((p33.ne rfl).trans (p32.ne rfl))).trans s2
          replace s4 : a34.eval (.tmp 4) = .string ⟨(flatP os).toArray⟩ := ((p34.ne rfl).trans ((p33.ne rfl).trans (p32.ne rfl))).trans s4
          replace s6 : a34.eval (.tmp 6) = .int .i64 ((sAt os os.length : Nat) : Int) := ((p34.ne rfl).trans ((p33.ne rfl).trans (p32.ne rfl))).trans s6
          replace s14 : a34.eval (.tmp 14) = .pointer (some ⟨q66, 0, none⟩) := ((p34.ne rfl).trans ((p33.ne rfl).trans (p32.ne rfl))).trans s14
          refine hK70 _ _ ?_
          clear hK70
          refine wp_seq_k fun K73 hK73 => ?_
          refine wp_region_lit ?_
          refine q_val rfl rfl ?_
          refine g_move rfl s16 ?_
          intro a35 p35
          have s91 : a35.eval (.tmp 91) = .string ⟨(encF f).toArray⟩ := p35.at hs (by decide)
          replace hs := p35.st hs
          refine q_val rfl rfl ?_
          refine g_call rfl rfl Try.call28 (arr1 s91) ?_
          refine (decodeFrame_enc (f := f) _ hfo).mono ?_
          rintro e w75 ⟨rfl, hb74⟩
          refine ⟨_, rfl, ?_⟩
          replace h_q56 := keep_below h_q56 hb74
          replace h_q64 := keep_below h_q64 hb74
          replace h_q66 := keep_below h_q66 hb74
          replace o_os := own_below o_os hb74
          replace o_r55 := own_below o_r55 hb74
          replace o_x60 := own_below o_x60 hb74
          replace o_x62 := own_below o_x62 hb74
          replace hB := hB.trans (hb74.mono hB.size)
          clear hb74
          intro a36 p36
          have s92 : a36.eval (.tmp 92) = .tuple #[.agg #[.int .i64 f.f0, .int .i64 f.f1, .int .i64 f.f2, .string ⟨(f.f3).toArray⟩], .bool true] := p36.at hs (by decide)
          replace hs := p36.st hs
          refine q_val rfl rfl ?_
          refine g_move rfl s92 ?_
          intro a37 p37
          have s90 : a37.eval (.tmp 90) = .tuple #[.agg #[.int .i64 f.f0, .int .i64 f.f1, .int .i64 f.f2, .string ⟨(f.f3).toArray⟩], .bool true] := p37.at hs (by decide)
          replace hs := p37.st hs
          refine q_val rfl rfl ?_
          refine g_extract rfl s90 rfl ?_
          intro a38 p38
          have s93 : a38.eval (.tmp 93) = .agg #[.int .i64 f.f0, .int .i64 f.f1, .int .i64 f.f2, .string ⟨(f.f3).toArray⟩] := p38.at hs (by decide)
          replace hs := p38.st hs
          refine q_val rfl rfl ?_
          refine g_extract rfl ((p38.ne rfl).trans s90) rfl ?_
          intro a39 p39
          have s94 : a39.eval (.tmp 94) = .bool true := p39.at hs (by decide)
          replace hs := p39.st hs
          refine q_val rfl rfl ?_
          refine g_alloc rfl Try.zeroValue40 rfl ?_
          intro q76 w77 N_q76
          have n_q56_q76 := N_q76.ne ⟨lt_of_block h_q56⟩
          have n_q76_q56 := n_q56_q76.symm
          have n_q64_q76 := N_q76.ne ⟨lt_of_block h_q64⟩
          have n_q76_q64 := n_q64_q76.symm
          have n_q66_q76 := N_q76.ne ⟨lt_of_block h_q66⟩
          have n_q76_q66 := n_q66_q76.symm
          have d_os_q76 := own_ne_new o_os N_q76
          have d_r55_q76 := own_ne_new o_r55 N_q76
          have d_x60_q76 := own_ne_new o_x60 N_q76
          have d_x62_q76 := own_ne_new o_x62 N_q76
          have g_q76 : GeB w.heap.size q76 := ⟨Nat.le_trans hB.size N_q76.lo⟩
          replace h_q56 := keep_below h_q56 N_q76.below
          replace h_q64 := keep_below h_q64 N_q76.below
          replace h_q66 := keep_below h_q66 N_q76.below
          replace o_os := own_below o_os N_q76.below
          replace o_r55 := own_below o_r55 N_q76.below
          replace o_x60 := own_below o_x60 N_q76.below
          replace o_x62 := own_below o_x62 N_q76.below
          replace hB := below_new hB hB.size N_q76
          have h_q76 := N_q76.here
          clear N_q76
          intro a40 p40
          have s17 : a40.eval (.tmp 17) = .pointer (some ⟨q76, 0, none⟩) := p40.at hs (by decide)
          replace hs := p40.st hs
          refine q_eff rfl rfl ?_
          refine g_storeB rfl s17 (((p40.ne rfl).trans (p39.ne rfl)).trans s93) Try.sizeOf40 rfl rfl h_q76 rfl ?_
          intro w78 W_w78
          replace h_q56 := keep_wrote h_q56 W_w78 n_q76_q56
          replace h_q64 := keep_wrote h_q64 W_w78 n_q76_q64
          replace h_q66 := keep_wrote h_q66 W_w78 n_q76_q66
          replace h_q76 := W_w78.here
          replace o_os := own_wrote o_os W_w78 d_os_q76
          replace o_r55 := own_wrote o_r55 W_w78 d_r55_q76
          replace o_x60 := own_wrote o_x60 W_w78 d_x60_q76
          replace o_x62 := own_wrote o_x62 W_w78 d_x62_q76
          replace hB := below_wrote hB hB.size W_w78 g_q76.le
          clear W_w78
          refine q_val rfl rfl ?_
          refine g_assign rfl ((p40.ne rfl).trans s94) ?_
          intro a41 p41
          have s18 : a41.eval (.tmp 18) = .bool true := p41.at hs (by decide)
          replace hs := p41.st hs
          refine wpList_nil ?_
          replace s0 : a41.eval (.tmp 0) = .slice A n c := ((p41.ne rfl).trans ((p40.ne rfl).trans ((p39.ne rfl).trans ((p38.ne rfl).trans ((p37.ne rfl).trans ((p36.ne rfl).trans (p35.ne rfl))))))).trans s0
          replace s2 : a41.eval (.tmp 2) = .bool false := ((p41.ne rfl).trans ((p40.ne rfl).trans ((p39.ne rfl).trans ((p38.ne rfl).trans ((p37.ne rfl).trans ((p36.ne rfl).trans (p35.ne rfl))))))).trans s2
          replace s4 : a41.eval (.tmp 4) = .string ⟨(flatP os).toArray⟩ := ((p41.ne rfl).trans ((p40.ne rfl).trans ((p39.ne rfl).trans ((p38.ne rfl).trans ((p37.ne rfl).trans ((p36.ne rfl).trans (p35.ne rfl))))))).trans s4
          replace s6 : a41.eval (.tmp 6) = .int .i64 ((sAt os os.length : Nat) : Int) := ((p41.ne rfl).trans ((p40.ne rfl).trans ((p39.ne rfl).trans ((p38.ne rfl).trans ((p37.ne rfl).trans ((p36.ne rfl).trans (p35.ne rfl))))))).trans s6
          replace s14 : a41.eval (.tmp 14) = .pointer (some ⟨q66, 0, none⟩) := ((p41.ne rfl).trans ((p40.ne rfl).trans ((p39.ne rfl).trans ((p38.ne rfl).trans ((p37.ne rfl).trans ((p36.ne rfl).trans (p35.ne rfl))))))).trans s14
          replace s16 : a41.eval (.tmp 16) = .string ⟨(encF f).toArray⟩ := ((p41.ne rfl).trans ((p40.ne rfl).trans ((p39.ne rfl).trans ((p38.ne rfl).trans ((p37.ne rfl).trans ((p36.ne rfl).trans (p35.ne rfl))))))).trans s16
          replace s17 : a41.eval (.tmp 17) = .pointer (some ⟨q76, 0, none⟩) := (p41.ne rfl).trans s17
          refine hK73 _ _ ?_
          clear hK73
          refine wp_seq_k fun K79 hK79 => ?_
          refine wp_region_lit ?_
          refine q_val rfl rfl ?_
          refine g_move rfl s16 ?_
          intro a42 p42
          have s96 : a42.eval (.tmp 96) = .string ⟨(encF f).toArray⟩ := p42.at hs (by decide)
          replace hs := p42.st hs
          refine q_val rfl rfl ?_
          refine g_concat rfl s96 rfl (by simp only [List.length_cons, List.length_nil]; omega) ?_
          intro a43 p43
          have s97 : a43.eval (.tmp 97) = .string ⟨((encF f) ++ [32]).toArray⟩ := p43.at hs (by decide)
          replace hs := p43.st hs
          refine q_val rfl rfl ?_
          refine g_move rfl (((p43.ne rfl).trans (p42.ne rfl)).trans s0) ?_
          intro a44 p44
          have s98 : a44.eval (.tmp 98) = .slice A n c := p44.at hs (by decide)
          replace hs := p44.st hs
          refine q_val rfl rfl ?_
          refine g_call rfl rfl Try.call12 (arr2 s98 rfl) ?_
          refine (at_nat hlen hnc hcm (hr_cc.below hB) 1 (by omega)).mono ?_
          rintro e w' ⟨rfl, rfl⟩
          refine ⟨_, rfl, ?_⟩
          intro a45 p45
          have s99 : a45.eval (.tmp 99) = .int .i64 ((atN bs (1) : Nat) : Int) := p45.at hs (by decide)
          replace hs := p45.st hs
          refine q_val rfl rfl ?_
          refine g_move rfl (((p45.ne rfl).trans ((p44.ne rfl).trans ((p43.ne rfl).trans (p42.ne rfl)))).trans s0) ?_
          intro a46 p46
          have s100 : a46.eval (.tmp 100) = .slice A n c := p46.at hs (by decide)
          replace hs := p46.st hs
          refine q_val rfl rfl ?_
          refine g_call rfl rfl Try.call12 (arr2 s100 rfl) ?_
          refine (at_nat hlen hnc hcm (hr_cc.below hB) 2 (by omega)).mono ?_
          rintro e w' ⟨rfl, rfl⟩
          refine ⟨_, rfl, ?_⟩
          intro a47 p47
          have s101 : a47.eval (.tmp 101) = .int .i64 ((atN bs (2) : Nat) : Int) := p47.at hs (by decide)
          replace hs := p47.st hs
          refine q_val rfl rfl ?_
          refine g_call rfl rfl Try.call29 (arr3 (((p47.ne rfl).trans ((p46.ne rfl).trans ((p45.ne rfl).trans (p44.ne rfl)))).trans s97) (((p47.ne rfl).trans (p46.ne rfl)).trans s99) s101) ?_
          refine (turn_any ((encF f) ++ [32]) _ _ _ (by (try simp only [List.length_append, List.length_cons, List.length_nil]); omega) (by unfold Txt; (try simp only [List.length_append, List.length_cons, List.length_nil]); omega) (by omega) (by have := atN_le bs 1; omega) (by omega) (by have := atN_le bs 2; omega)).mono ?_
          rintro e w81 ⟨j80, y80, hj80, hy80, rfl, hb80⟩
          refine ⟨_, rfl, ?_⟩
          replace h_q56 := keep_below h_q56 hb80
          replace h_q64 := keep_below h_q64 hb80
          replace h_q66 := keep_below h_q66 hb80
          replace h_q76 := keep_below h_q76 hb80
          replace o_os := own_below o_os hb80
          replace o_r55 := own_below o_r55 hb80
          replace o_x60 := own_below o_x60 hb80
          replace o_x62 := own_below o_x62 hb80
          replace hB := hB.trans (hb80.mono hB.size)
          clear hb80
          intro a48 p48
          have s102 : a48.eval (.tmp 102) = .string ⟨(((encF f) ++ [32]).set j80 y80).toArray⟩ := p48.at hs (by decide)
          replace hs := p48.st hs
          refine q_val rfl rfl ?_
          have hzb_j80 : dfO (((encF f) ++ [32]).set j80 y80) = false := (df_long (by simp only [List.length_set, List.length_append, List.length_cons, List.length_nil]; omega))
          have hzt_j80 : Txt (((encF f) ++ [32]).set j80 y80) := (by unfold Txt; simp only [List.length_set, List.length_append, List.length_cons, List.length_nil]; omega)
          refine g_call rfl rfl Try.call28 (arr1 s102) ?_
          refine (decodeFrame_bad _ hzb_j80 hzt_j80).mono ?_
          rintro e w83 ⟨rfl, hb82⟩
          refine ⟨_, rfl, ?_⟩
          replace h_q56 := keep_below h_q56 hb82
          replace h_q64 := keep_below h_q64 hb82
          replace h_q66 := keep_below h_q66 hb82
          replace h_q76 := keep_below h_q76 hb82
          replace o_os := own_below o_os hb82
          replace o_r55 := own_below o_r55 hb82
          replace o_x60 := own_below o_x60 hb82
          replace o_x62 := own_below o_x62 hb82
          replace hB := hB.trans (hb82.mono hB.size)
          clear hb82
          intro a49 p49
          have s103 : a49.eval (.tmp 103) = .tuple #[.agg #[.int .i64 0, .int .i64 0, .int .i64 0, .string ⟨#[]⟩], .bool false] := p49.at hs (by decide)
          replace hs := p49.st hs
          refine q_val rfl rfl ?_
          refine g_move rfl s103 ?_
          intro a50 p50
          have s95 : a50.eval (.tmp 95) = .tuple #[.agg #[.int .i64 0, .int .i64 0, .int .i64 0, .string ⟨#[]⟩], .bool false] := p50.at hs (by decide)
          replace hs := p50.st hs
          refine q_val rfl rfl ?_
          refine g_extract rfl s95 rfl ?_
          intro a51 p51
          have s104 : a51.eval (.tmp 104) = .agg #[.int .i64 0, .int .i64 0, .int .i64 0, .string ⟨#[]⟩] := p51.at hs (by decide)
          replace hs := p51.st hs
          refine q_val rfl rfl ?_
          refine g_extract rfl ((p51.ne rfl).trans s95) rfl ?_
          intro a52 p52
          have s105 : a52.eval (.tmp 105) = .bool false := p52.at hs (by decide)
          replace hs := p52.st hs
          refine q_val rfl rfl ?_
          refine g_alloc rfl Try.zeroValue40 rfl ?_
          intro q84 w85 N_q84
          have n_q56_q84 := N_q84.ne ⟨lt_of_block h_q56⟩
          have n_q84_q56 := n_q56_q84.symm
          have n_q64_q84 := N_q84.ne ⟨lt_of_block h_q64⟩
          have n_q84_q64 := n_q64_q84.symm
          have n_q66_q84 := N_q84.ne ⟨lt_of_block h_q66⟩
          have n_q84_q66 := n_q66_q84.symm
          have n_q76_q84 := N_q84.ne ⟨lt_of_block h_q76⟩
          have n_q84_q76 := n_q76_q84.symm
          have d_os_q84 := own_ne_new o_os N_q84
          have d_r55_q84 := own_ne_new o_r55 N_q84
          have d_x60_q84 := own_ne_new o_x60 N_q84
          have d_x62_q84 := own_ne_new o_x62 N_q84
          have g_q84 : GeB w.heap.size q84 := ⟨Nat.le_trans hB.size N_q84.lo⟩
          replace h_q56 := keep_below h_q56 N_q84.below
          replace h_q64 := keep_below h_q64 N_q84.below
          replace h_q66 := keep_below h_q66 N_q84.below
          replace h_q76 := keep_below h_q76 N_q84.below
          replace o_os := own_below o_os N_q84.below
          replace o_r55 := own_below o_r55 N_q84.below
          replace o_x60 := own_below o_x60 N_q84.below
          replace o_x62 := own_below o_x62 N_q84.below
          replace hB := below_new hB hB.size N_q84
          have h_q84 := N_q84.here
          clear N_q84
          intro a53 p53
          have s19 : a53.eval (.tmp 19) = .pointer (some ⟨q84, 0, none⟩) := p53.at hs (by decide)
          replace hs := p53.st hs
          refine q_eff rfl rfl ?_
          refine g_storeB rfl s19 (((p53.ne rfl).trans (p52.ne rfl)).trans s104) Try.sizeOf40 rfl rfl h_q84 rfl ?_
          intro w86 W_w86
          replace h_q56 := keep_wrote h_q56 W_w86 n_q84_q56
          replace h_q64 := keep_wrote h_q64 W_w86 n_q84_q64
          replace h_q66 := keep_wrote h_q66 W_w86 n_q84_q66
          replace h_q76 := keep_wrote h_q76 W_w86 n_q84_q76
          replace h_q84 := W_w86.here
          replace o_os := own_wrote o_os W_w86 d_os_q84
          replace o_r55 := own_wrote o_r55 W_w86 d_r55_q84
          replace o_x60 := own_wrote o_x60 W_w86 d_x60_q84
          replace o_x62 := own_wrote o_x62 W_w86 d_x62_q84
          replace hB := below_wrote hB hB.size W_w86 g_q84.le
          clear W_w86
          refine q_val rfl rfl ?_
          refine g_assign rfl ((p53.ne rfl).trans s105) ?_
          intro a54 p54
          have s20 : a54.eval (.tmp 20) = .bool false := p54.at hs (by decide)
          replace hs := p54.st hs
          refine wpList_nil ?_
          replace s0 : a54.eval (.tmp 0) = .slice A n c := ((p54.ne rfl).trans ((p53.ne rfl).trans ((p52.ne rfl).trans ((p51.ne rfl).trans ((p50.ne rfl).trans ((p49.ne rfl).trans ((p48.ne rfl).trans ((p47.ne rfl).trans ((p46.ne rfl).trans ((p45.ne rfl).trans ((p44.ne rfl).trans ((p43.ne rfl).trans (p42.ne rfl))))))))))))).trans s0
          replace s2 : a54.eval (.tmp 2) = .bool false := ((p54.ne rfl).trans ((p53.ne rfl).trans ((p52.ne rfl).trans ((p51.ne rfl).trans ((p50.ne rfl).trans ((p49.ne rfl).trans ((p48.ne rfl).trans ((p47.ne rfl).trans ((p46.ne rfl).trans ((p45.ne rfl).trans ((p44.ne rfl).trans ((p43.ne rfl).trans (p42.ne rfl))))))))))))).trans s2
          replace s4 : a54.eval (.tmp 4) = .string ⟨(flatP os).toArray⟩ := ((p54.ne rfl).trans ((p53.ne rfl).trans ((p52.ne rfl).trans ((p51.ne rfl).trans ((p50.ne rfl).trans ((p49.ne rfl).trans ((p48.ne rfl).trans ((p47.ne rfl).trans ((p46.ne rfl).trans ((p45.ne rfl).trans ((p44.ne rfl).trans ((p43.ne rfl).trans (p42.ne rfl))))))))))))).trans s4
          replace s6 : a54.eval (.tmp 6) = .int .i64 ((sAt os os.length : Nat) : Int) := ((p54.ne rfl).trans ((p53.ne rfl).trans ((p52.ne rfl).trans ((p51.ne rfl).trans ((p50.ne rfl).trans ((p49.ne rfl).trans ((p48.ne rfl).trans ((p47.ne rfl).trans ((p46.ne rfl).trans ((p45.ne rfl).trans ((p44.ne rfl).trans ((p43.ne rfl).trans (p42.ne rfl))))))))))))).trans s6
          replace s14 : a54.eval (.tmp 14) = .pointer (some ⟨q66, 0, none⟩) := ((p54.ne rfl).trans ((p53.ne rfl).trans ((p52.ne rfl).trans ((p51.ne rfl).trans ((p50.ne rfl).trans ((p49.ne rfl).trans ((p48.ne rfl).trans ((p47.ne rfl).trans ((p46.ne rfl).trans ((p45.ne rfl).trans ((p44.ne rfl).trans ((p43.ne rfl).trans (p42.ne rfl))))))))))))).trans s14
          replace s16 : a54.eval (.tmp 16) = .string ⟨(encF f).toArray⟩ := ((p54.ne rfl).trans ((p53.ne rfl).trans ((p52.ne rfl).trans ((p51.ne rfl).trans ((p50.ne rfl).trans ((p49.ne rfl).trans ((p48.ne rfl).trans ((p47.ne rfl).trans ((p46.ne rfl).trans ((p45.ne rfl).trans ((p44.ne rfl).trans ((p43.ne rfl).trans (p42.ne rfl))))))))))))).trans s16
          replace s17 : a54.eval (.tmp 17) = .pointer (some ⟨q76, 0, none⟩) := ((p54.ne rfl).trans ((p53.ne rfl).trans ((p52.ne rfl).trans ((p51.ne rfl).trans ((p50.ne rfl).trans ((p49.ne rfl).trans ((p48.ne rfl).trans ((p47.ne rfl).trans ((p46.ne rfl).trans ((p45.ne rfl).trans ((p44.ne rfl).trans ((p43.ne rfl).trans (p42.ne rfl))))))))))))).trans s17
          replace s18 : a54.eval (.tmp 18) = .bool true := ((p54.ne rfl).trans ((p53.ne rfl).trans ((p52.ne rfl).trans ((p51.ne rfl).trans ((p50.ne rfl).trans ((p49.ne rfl).trans ((p48.ne rfl).trans ((p47.ne rfl).trans ((p46.ne rfl).trans ((p45.ne rfl).trans ((p44.ne rfl).trans ((p43.ne rfl).trans (p42.ne rfl))))))))))))).trans s18
          refine hK79 _ _ ?_
          clear hK79
          refine wp_seq_k fun K87 hK87 => ?_
          refine wp_region_lit ?_
          refine q_val rfl rfl ?_
          refine g_move rfl s16 ?_
          intro a55 p55
          have s107 : a55.eval (.tmp 107) = .string ⟨(encF f).toArray⟩ := p55.at hs (by decide)
          replace hs := p55.st hs
          refine q_val rfl rfl ?_
          refine g_move rfl ((p55.ne rfl).trans s0) ?_
          intro a56 p56
          have s108 : a56.eval (.tmp 108) = .slice A n c := p56.at hs (by decide)
          replace hs := p56.st hs
          refine q_val rfl rfl ?_
          refine g_call rfl rfl Try.call12 (arr2 s108 rfl) ?_
          refine (at_nat hlen hnc hcm (hr_cc.below hB) 1 (by omega)).mono ?_
          rintro e w' ⟨rfl, rfl⟩
          refine ⟨_, rfl, ?_⟩
          intro a57 p57
          have s109 : a57.eval (.tmp 109) = .int .i64 ((atN bs (1) : Nat) : Int) := p57.at hs (by decide)
          replace hs := p57.st hs
          refine q_val rfl rfl ?_
          refine g_move rfl (((p57.ne rfl).trans ((p56.ne rfl).trans (p55.ne rfl))).trans s0) ?_
          intro a58 p58
          have s110 : a58.eval (.tmp 110) = .slice A n c := p58.at hs (by decide)
          replace hs := p58.st hs
          refine q_val rfl rfl ?_
          refine g_call rfl rfl Try.call12 (arr2 s110 rfl) ?_
          refine (at_nat hlen hnc hcm (hr_cc.below hB) 2 (by omega)).mono ?_
          rintro e w' ⟨rfl, rfl⟩
          refine ⟨_, rfl, ?_⟩
          intro a59 p59
          have s111 : a59.eval (.tmp 111) = .int .i64 ((atN bs (2) : Nat) : Int) := p59.at hs (by decide)
          replace hs := p59.st hs
          refine q_val rfl rfl ?_
          refine g_call rfl rfl Try.call29 (arr3 (((p59.ne rfl).trans ((p58.ne rfl).trans ((p57.ne rfl).trans (p56.ne rfl)))).trans s107) (((p59.ne rfl).trans (p58.ne rfl)).trans s109) s111) ?_
          refine (turn_any (encF f) _ _ _ (by (try simp only [List.length_append, List.length_cons, List.length_nil]); omega) (by unfold Txt; (try simp only [List.length_append, List.length_cons, List.length_nil]); omega) (by omega) (by have := atN_le bs 1; omega) (by omega) (by have := atN_le bs 2; omega)).mono ?_
          rintro e w89 ⟨j88, y88, hj88, hy88, rfl, hb88⟩
          refine ⟨_, rfl, ?_⟩
          replace h_q56 := keep_below h_q56 hb88
          replace h_q64 := keep_below h_q64 hb88
          replace h_q66 := keep_below h_q66 hb88
          replace h_q76 := keep_below h_q76 hb88
          replace h_q84 := keep_below h_q84 hb88
          replace o_os := own_below o_os hb88
          replace o_r55 := own_below o_r55 hb88
          replace o_x60 := own_below o_x60 hb88
          replace o_x62 := own_below o_x62 hb88
          replace hB := hB.trans (hb88.mono hB.size)
          clear hb88
          intro a60 p60
          have s112 : a60.eval (.tmp 112) = .string ⟨((encF f).set j88 y88).toArray⟩ := p60.at hs (by decide)
          replace hs := p60.st hs
          refine q_val rfl rfl ?_
          have hzb_j88 : dfO ((encF f).set j88 y88) = false := (df_turned hfo hj88 hy88)
          have hzt_j88 : Txt ((encF f).set j88 y88) := (by unfold Txt; rw [List.length_set]; omega)
          refine g_call rfl rfl Try.call28 (arr1 s112) ?_
          refine (decodeFrame_bad _ hzb_j88 hzt_j88).mono ?_
          rintro e w91 ⟨rfl, hb90⟩
          refine ⟨_, rfl, ?_⟩
          replace h_q56 := keep_below h_q56 hb90
          replace h_q64 := keep_below h_q64 hb90
          replace h_q66 := keep_below h_q66 hb90
          replace h_q76 := keep_below h_q76 hb90
          replace h_q84 := keep_below h_q84 hb90
          replace o_os := own_below o_os hb90
          replace o_r55 := own_below o_r55 hb90
          replace o_x60 := own_below o_x60 hb90
          replace o_x62 := own_below o_x62 hb90
          replace hB := hB.trans (hb90.mono hB.size)
          clear hb90
          intro a61 p61
          have s113 : a61.eval (.tmp 113) = .tuple #[.agg #[.int .i64 0, .int .i64 0, .int .i64 0, .string ⟨#[]⟩], .bool false] := p61.at hs (by decide)
          replace hs := p61.st hs
          refine q_val rfl rfl ?_
          refine g_move rfl s113 ?_
          intro a62 p62
          have s106 : a62.eval (.tmp 106) = .tuple #[.agg #[.int .i64 0, .int .i64 0, .int .i64 0, .string ⟨#[]⟩], .bool false] := p62.at hs (by decide)
          replace hs := p62.st hs
          refine q_val rfl rfl ?_
          refine g_extract rfl s106 rfl ?_
          intro a63 p63
          have s114 : a63.eval (.tmp 114) = .agg #[.int .i64 0, .int .i64 0, .int .i64 0, .string ⟨#[]⟩] := p63.at hs (by decide)
          replace hs := p63.st hs
          refine q_val rfl rfl ?_
          refine g_extract rfl ((p63.ne rfl).trans s106) rfl ?_
          intro a64 p64
          have s115 : a64.eval (.tmp 115) = .bool false := p64.at hs (by decide)
          replace hs := p64.st hs
          refine q_val rfl rfl ?_
          refine g_alloc rfl Try.zeroValue40 rfl ?_
          intro q92 w93 N_q92
          have n_q56_q92 := N_q92.ne ⟨lt_of_block h_q56⟩
          have n_q92_q56 := n_q56_q92.symm
          have n_q64_q92 := N_q92.ne ⟨lt_of_block h_q64⟩
          have n_q92_q64 := n_q64_q92.symm
          have n_q66_q92 := N_q92.ne ⟨lt_of_block h_q66⟩
          have n_q92_q66 := n_q66_q92.symm
          have n_q76_q92 := N_q92.ne ⟨lt_of_block h_q76⟩
          have n_q92_q76 := n_q76_q92.symm
          have n_q84_q92 := N_q92.ne ⟨lt_of_block h_q84⟩
          have n_q92_q84 := n_q84_q92.symm
          have d_os_q92 := own_ne_new o_os N_q92
          have d_r55_q92 := own_ne_new o_r55 N_q92
          have d_x60_q92 := own_ne_new o_x60 N_q92
          have d_x62_q92 := own_ne_new o_x62 N_q92
          have g_q92 : GeB w.heap.size q92 := ⟨Nat.le_trans hB.size N_q92.lo⟩
          replace h_q56 := keep_below h_q56 N_q92.below
          replace h_q64 := keep_below h_q64 N_q92.below
          replace h_q66 := keep_below h_q66 N_q92.below
          replace h_q76 := keep_below h_q76 N_q92.below
          replace h_q84 := keep_below h_q84 N_q92.below
          replace o_os := own_below o_os N_q92.below
          replace o_r55 := own_below o_r55 N_q92.below
          replace o_x60 := own_below o_x60 N_q92.below
          replace o_x62 := own_below o_x62 N_q92.below
          replace hB := below_new hB hB.size N_q92
          have h_q92 := N_q92.here
          clear N_q92
          intro a65 p65
          have s21 : a65.eval (.tmp 21) = .pointer (some ⟨q92, 0, none⟩) := p65.at hs (by decide)
          replace hs := p65.st hs
          refine q_eff rfl rfl ?_
          refine g_storeB rfl s21 (((p65.ne rfl).trans (p64.ne rfl)).trans s114) Try.sizeOf40 rfl rfl h_q92 rfl ?_
          intro w94 W_w94
          replace h_q56 := keep_wrote h_q56 W_w94 n_q92_q56
          replace h_q64 := keep_wrote h_q64 W_w94 n_q92_q64
          replace h_q66 := keep_wrote h_q66 W_w94 n_q92_q66
          replace h_q76 := keep_wrote h_q76 W_w94 n_q92_q76
          replace h_q84 := keep_wrote h_q84 W_w94 n_q92_q84
          replace h_q92 := W_w94.here
          replace o_os := own_wrote o_os W_w94 d_os_q92
          replace o_r55 := own_wrote o_r55 W_w94 d_r55_q92
          replace o_x60 := own_wrote o_x60 W_w94 d_x60_q92
          replace o_x62 := own_wrote o_x62 W_w94 d_x62_q92
          replace hB := below_wrote hB hB.size W_w94 g_q92.le
          clear W_w94
          refine q_val rfl rfl ?_
          refine g_assign rfl ((p65.ne rfl).trans s115) ?_
          intro a66 p66
          have s22 : a66.eval (.tmp 22) = .bool false := p66.at hs (by decide)
          replace hs := p66.st hs
          refine wpList_nil ?_
          replace s2 : a66.eval (.tmp 2) = .bool false := ((p66.ne rfl).trans ((p65.ne rfl).trans ((p64.ne rfl).trans ((p63.ne rfl).trans ((p62.ne rfl).trans ((p61.ne rfl).trans ((p60.ne rfl).trans ((p59.ne rfl).trans ((p58.ne rfl).trans ((p57.ne rfl).trans ((p56.ne rfl).trans (p55.ne rfl)))))))))))).trans s2
          replace s4 : a66.eval (.tmp 4) = .string ⟨(flatP os).toArray⟩ := ((p66.ne rfl).trans ((p65.ne rfl).trans ((p64.ne rfl).trans ((p63.ne rfl).trans ((p62.ne rfl).trans ((p61.ne rfl).trans ((p60.ne rfl).trans ((p59.ne rfl).trans ((p58.ne rfl).trans ((p57.ne rfl).trans ((p56.ne rfl).trans (p55.ne rfl)))))))))))).trans s4
          replace s6 : a66.eval (.tmp 6) = .int .i64 ((sAt os os.length : Nat) : Int) := ((p66.ne rfl).trans ((p65.ne rfl).trans ((p64.ne rfl).trans ((p63.ne rfl).trans ((p62.ne rfl).trans ((p61.ne rfl).trans ((p60.ne rfl).trans ((p59.ne rfl).trans ((p58.ne rfl).trans ((p57.ne rfl).trans ((p56.ne rfl).trans (p55.ne rfl)))))))))))).trans s6
          replace s14 : a66.eval (.tmp 14) = .pointer (some ⟨q66, 0, none⟩) := ((p66.ne rfl).trans ((p65.ne rfl).trans ((p64.ne rfl).trans ((p63.ne rfl).trans ((p62.ne rfl).trans ((p61.ne rfl).trans ((p60.ne rfl).trans ((p59.ne rfl).trans ((p58.ne rfl).trans ((p57.ne rfl).trans ((p56.ne rfl).trans (p55.ne rfl)))))))))))).trans s14
          replace s16 : a66.eval (.tmp 16) = .string ⟨(encF f).toArray⟩ := ((p66.ne rfl).trans ((p65.ne rfl).trans ((p64.ne rfl).trans ((p63.ne rfl).trans ((p62.ne rfl).trans ((p61.ne rfl).trans ((p60.ne rfl).trans ((p59.ne rfl).trans ((p58.ne rfl).trans ((p57.ne rfl).trans ((p56.ne rfl).trans (p55.ne rfl)))))))))))).trans s16
          replace s17 : a66.eval (.tmp 17) = .pointer (some ⟨q76, 0, none⟩) := ((p66.ne rfl).trans ((p65.ne rfl).trans ((p64.ne rfl).trans ((p63.ne rfl).trans ((p62.ne rfl).trans ((p61.ne rfl).trans ((p60.ne rfl).trans ((p59.ne rfl).trans ((p58.ne rfl).trans ((p57.ne rfl).trans ((p56.ne rfl).trans (p55.ne rfl)))))))))))).trans s17
          replace s18 : a66.eval (.tmp 18) = .bool true := ((p66.ne rfl).trans ((p65.ne rfl).trans ((p64.ne rfl).trans ((p63.ne rfl).trans ((p62.ne rfl).trans ((p61.ne rfl).trans ((p60.ne rfl).trans ((p59.ne rfl).trans ((p58.ne rfl).trans ((p57.ne rfl).trans ((p56.ne rfl).trans (p55.ne rfl)))))))))))).trans s18
          replace s20 : a66.eval (.tmp 20) = .bool false := ((p66.ne rfl).trans ((p65.ne rfl).trans ((p64.ne rfl).trans ((p63.ne rfl).trans ((p62.ne rfl).trans ((p61.ne rfl).trans ((p60.ne rfl).trans ((p59.ne rfl).trans ((p58.ne rfl).trans ((p57.ne rfl).trans ((p56.ne rfl).trans (p55.ne rfl)))))))))))).trans s20
          refine hK87 _ _ ?_
          clear hK87
          refine wp_seq_k fun K95 hK95 => ?_
          refine wp_region_lit ?_
          refine q_val rfl rfl ?_
          refine g_move rfl s6 ?_
          intro a67 p67
          have s116 : a67.eval (.tmp 116) = .int .i64 ((sAt os os.length : Nat) : Int) := p67.at hs (by decide)
          replace hs := p67.st hs
          refine q_val rfl rfl ?_
          refine g_move rfl ((p67.ne rfl).trans s4) ?_
          intro a68 p68
          have s117 : a68.eval (.tmp 117) = .string ⟨(flatP os).toArray⟩ := p68.at hs (by decide)
          replace hs := p68.st hs
          refine q_val rfl rfl ?_
          refine g_lenS rfl Try.underlying9 s117 ?_
          intro a69 p69
          have s118 : a69.eval (.tmp 118) = .int .i64 (((flatP os).length : Nat) : Int) := p69.at hs (by decide)
          replace hs := p69.st hs
          refine q_val rfl rfl ?_
          refine g_eql rfl (((p69.ne rfl).trans (p68.ne rfl)).trans s116) s118 ?_
          intro a70 p70
          have s119 : a70.eval (.tmp 119) = .bool true := (p70.at hs (by decide)).trans (congrArg Value.bool (decide_eq_true (by omega)))
          replace hs := p70.st hs
          refine q_val rfl rfl ?_
          refine g_move rfl s119 ?_
          intro a71 p71
          have s120 : a71.eval (.tmp 120) = .bool true := p71.at hs (by decide)
          replace hs := p71.st hs
          refine q_take rfl rfl s120 rfl ?_
          refine g_move rfl (((p71.ne rfl).trans ((p70.ne rfl).trans ((p69.ne rfl).trans ((p68.ne rfl).trans (p67.ne rfl))))).trans s18) ?_
          intro a72 p72
          have s121 : a72.eval (.tmp 121) = .bool true := p72.at hs (by decide)
          replace hs := p72.st hs
          refine q_val rfl rfl ?_
          refine g_pick_t rfl ((p72.ne rfl).trans s120) s121 ?_
          intro a73 p73
          have s122 : a73.eval (.tmp 122) = .bool true := p73.at hs (by decide)
          replace hs := p73.st hs
          refine q_val rfl rfl ?_
          refine g_move rfl s122 ?_
          intro a74 p74
          have s123 : a74.eval (.tmp 123) = .bool true := p74.at hs (by decide)
          replace hs := p74.st hs
          refine q_take rfl rfl s123 rfl ?_
          refine g_loadB rfl (((p74.ne rfl).trans ((p73.ne rfl).trans ((p72.ne rfl).trans ((p71.ne rfl).trans ((p70.ne rfl).trans ((p69.ne rfl).trans ((p68.ne rfl).trans (p67.ne rfl)))))))).trans s17) Try.isAgg40 Try.sizeOf40 rfl h_q76 ?_
          intro a75 p75
          have s124 : a75.eval (.tmp 124) = .agg #[.int .i64 f.f0, .int .i64 f.f1, .int .i64 f.f2, .string ⟨(f.f3).toArray⟩] := p75.at hs (by decide)
          replace hs := p75.st hs
          refine q_take rfl rfl ((p75.ne rfl).trans s123) rfl ?_
          refine g_loadB rfl (((p75.ne rfl).trans ((p74.ne rfl).trans ((p73.ne rfl).trans ((p72.ne rfl).trans ((p71.ne rfl).trans ((p70.ne rfl).trans ((p69.ne rfl).trans ((p68.ne rfl).trans (p67.ne rfl))))))))).trans s14) Try.isAgg40 Try.sizeOf40 rfl h_q66 ?_
          intro a76 p76
          have s125 : a76.eval (.tmp 125) = .agg #[.int .i64 f.f0, .int .i64 f.f1, .int .i64 f.f2, .string ⟨(f.f3).toArray⟩] := p76.at hs (by decide)
          replace hs := p76.st hs
          refine q_take rfl rfl (((p76.ne rfl).trans (p75.ne rfl)).trans s123) rfl ?_
          refine g_eqlF rfl ((p76.ne rfl).trans s124) s125 rfl ?_
          intro a77 p77
          have s126 : a77.eval (.tmp 126) = .bool true := p77.at hs (by decide)
          replace hs := p77.st hs
          refine q_val rfl rfl ?_
          refine g_pick_t rfl (((p77.ne rfl).trans ((p76.ne rfl).trans (p75.ne rfl))).trans s123) s126 ?_
          intro a78 p78
          have s127 : a78.eval (.tmp 127) = .bool true := p78.at hs (by decide)
          replace hs := p78.st hs
          refine q_val rfl rfl ?_
          refine g_move rfl s127 ?_
          intro a79 p79
          have s128 : a79.eval (.tmp 128) = .bool true := p79.at hs (by decide)
          replace hs := p79.st hs
          refine q_take rfl rfl s128 rfl ?_
          refine g_move rfl (((p79.ne rfl).trans ((p78.ne rfl).trans ((p77.ne rfl).trans ((p76.ne rfl).trans ((p75.ne rfl).trans ((p74.ne rfl).trans ((p73.ne rfl).trans ((p72.ne rfl).trans ((p71.ne rfl).trans ((p70.ne rfl).trans ((p69.ne rfl).trans ((p68.ne rfl).trans (p67.ne rfl))))))))))))).trans s20) ?_
          intro a80 p80
          have s129 : a80.eval (.tmp 129) = .bool false := p80.at hs (by decide)
          replace hs := p80.st hs
          refine q_take rfl rfl ((p80.ne rfl).trans s128) rfl ?_
          refine g_not rfl s129 ?_
          intro a81 p81
          have s130 : a81.eval (.tmp 130) = .bool true := p81.at hs (by decide)
          replace hs := p81.st hs
          refine q_val rfl rfl ?_
          refine g_pick_t rfl (((p81.ne rfl).trans (p80.ne rfl)).trans s128) s130 ?_
          intro a82 p82
          have s131 : a82.eval (.tmp 131) = .bool true := p82.at hs (by decide)
          replace hs := p82.st hs
          refine q_val rfl rfl ?_
          refine g_move rfl s131 ?_
          intro a83 p83
          have s132 : a83.eval (.tmp 132) = .bool true := p83.at hs (by decide)
          replace hs := p83.st hs
          refine q_take rfl rfl s132 rfl ?_
          refine g_move rfl (((p83.ne rfl).trans ((p82.ne rfl).trans ((p81.ne rfl).trans ((p80.ne rfl).trans ((p79.ne rfl).trans ((p78.ne rfl).trans ((p77.ne rfl).trans ((p76.ne rfl).trans ((p75.ne rfl).trans ((p74.ne rfl).trans ((p73.ne rfl).trans ((p72.ne rfl).trans ((p71.ne rfl).trans ((p70.ne rfl).trans ((p69.ne rfl).trans ((p68.ne rfl).trans (p67.ne rfl))))))))))))))))).trans s22) ?_
          intro a84 p84
          have s133 : a84.eval (.tmp 133) = .bool false := p84.at hs (by decide)
          replace hs := p84.st hs
          refine q_take rfl rfl ((p84.ne rfl).trans s132) rfl ?_
          refine g_not rfl s133 ?_
          intro a85 p85
          have s134 : a85.eval (.tmp 134) = .bool true := p85.at hs (by decide)
          replace hs := p85.st hs
          refine q_val rfl rfl ?_
          refine g_pick_t rfl (((p85.ne rfl).trans (p84.ne rfl)).trans s132) s134 ?_
          intro a86 p86
          have s135 : a86.eval (.tmp 135) = .bool true := p86.at hs (by decide)
          replace hs := p86.st hs
          refine q_val rfl rfl ?_
          refine g_move rfl s135 ?_
          intro a87 p87
          have s136 : a87.eval (.tmp 136) = .bool true := p87.at hs (by decide)
          replace hs := p87.st hs
          refine q_take rfl rfl s136 rfl ?_
          refine g_move rfl (((p87.ne rfl).trans ((p86.ne rfl).trans ((p85.ne rfl).trans ((p84.ne rfl).trans ((p83.ne rfl).trans ((p82.ne rfl).trans ((p81.ne rfl).trans ((p80.ne rfl).trans ((p79.ne rfl).trans ((p78.ne rfl).trans ((p77.ne rfl).trans ((p76.ne rfl).trans ((p75.ne rfl).trans ((p74.ne rfl).trans ((p73.ne rfl).trans ((p72.ne rfl).trans ((p71.ne rfl).trans ((p70.ne rfl).trans ((p69.ne rfl).trans ((p68.ne rfl).trans (p67.ne rfl))))))))))))))))))))).trans s16) ?_
          intro a88 p88
          have s137 : a88.eval (.tmp 137) = .string ⟨(encF f).toArray⟩ := p88.at hs (by decide)
          replace hs := p88.st hs
          refine q_take rfl rfl ((p88.ne rfl).trans s136) rfl ?_
          refine g_lenS rfl Try.underlying9 s137 ?_
          intro a89 p89
          have s138 : a89.eval (.tmp 138) = .int .i64 (((encF f).length : Nat) : Int) := p89.at hs (by decide)
          replace hs := p89.st hs
          refine q_take rfl rfl (((p89.ne rfl).trans (p88.ne rfl)).trans s136) rfl ?_
          refine g_eql rfl s138 rfl ?_
          intro a90 p90
          have s139 : a90.eval (.tmp 139) = .bool true := (p90.at hs (by decide)).trans (congrArg Value.bool (decide_eq_true (by omega)))
          replace hs := p90.st hs
          refine q_val rfl rfl ?_
          refine g_pick_t rfl (((p90.ne rfl).trans ((p89.ne rfl).trans (p88.ne rfl))).trans s136) s139 ?_
          intro a91 p91
          have s140 : a91.eval (.tmp 140) = .bool true := p91.at hs (by decide)
          replace hs := p91.st hs
          refine q_val rfl rfl ?_
          refine g_move rfl s140 ?_
          intro a92 p92
          have s141 : a92.eval (.tmp 141) = .bool true := p92.at hs (by decide)
          replace hs := p92.st hs
          refine q_take rfl rfl s141 rfl ?_
          refine g_loadB rfl (((p92.ne rfl).trans ((p91.ne rfl).trans ((p90.ne rfl).trans ((p89.ne rfl).trans ((p88.ne rfl).trans ((p87.ne rfl).trans ((p86.ne rfl).trans ((p85.ne rfl).trans ((p84.ne rfl).trans ((p83.ne rfl).trans ((p82.ne rfl).trans ((p81.ne rfl).trans ((p80.ne rfl).trans ((p79.ne rfl).trans ((p78.ne rfl).trans ((p77.ne rfl).trans ((p76.ne rfl).trans ((p75.ne rfl).trans ((p74.ne rfl).trans ((p73.ne rfl).trans ((p72.ne rfl).trans ((p71.ne rfl).trans ((p70.ne rfl).trans ((p69.ne rfl).trans ((p68.ne rfl).trans (p67.ne rfl)))))))))))))))))))))))))).trans s14) Try.isAgg40 Try.sizeOf40 rfl h_q66 ?_
          intro a93 p93
          have s142 : a93.eval (.tmp 142) = .agg #[.int .i64 f.f0, .int .i64 f.f1, .int .i64 f.f2, .string ⟨(f.f3).toArray⟩] := p93.at hs (by decide)
          replace hs := p93.st hs
          refine q_take rfl rfl ((p93.ne rfl).trans s141) rfl ?_
          refine g_call rfl rfl Try.call30 (arr1 s142) ?_
          refine (frameOk_yes (x := f) _ hfo).mono ?_
          rintro e w97 ⟨rfl, hb96⟩
          refine ⟨_, rfl, ?_⟩
          replace h_q56 := keep_below h_q56 hb96
          replace h_q64 := keep_below h_q64 hb96
          replace h_q66 := keep_below h_q66 hb96
          replace h_q76 := keep_below h_q76 hb96
          replace h_q84 := keep_below h_q84 hb96
          replace h_q92 := keep_below h_q92 hb96
          replace o_os := own_below o_os hb96
          replace o_r55 := own_below o_r55 hb96
          replace o_x60 := own_below o_x60 hb96
          replace o_x62 := own_below o_x62 hb96
          replace hB := hB.trans (hb96.mono hB.size)
          clear hb96
          intro a94 p94
          have s143 : a94.eval (.tmp 143) = .bool true := p94.at hs (by decide)
          replace hs := p94.st hs
          refine q_val rfl rfl ?_
          refine g_pick_t rfl (((p94.ne rfl).trans (p93.ne rfl)).trans s141) s143 ?_
          intro a95 p95
          have s144 : a95.eval (.tmp 144) = .bool true := p95.at hs (by decide)
          replace hs := p95.st hs
          refine q_val rfl rfl ?_
          refine g_assign rfl s144 ?_
          intro a96 p96
          have s2 : a96.eval (.tmp 2) = .bool true := p96.at hs (by decide)
          replace hs := p96.st hs
          refine wpList_nil ?_
          refine hK95 _ _ ?_
          clear hK95
          refine wp_ret ?_
          try dsimp only [Exit.then, Exit.inBlock]
          refine ret1 hs Try.results5 (res_tmp s2) ?_
          exact ⟨rfl, hB⟩

/-! ### The row's step, written by a program of ours (frame.py) -/
namespace fnPacketBytesDone
open Go.ChangeShapes Go.WideShapes Go.ChangeAt
open Go.ChangeMaps (open_string)
theorem own : ownKnob Try.prog.godebug = none := by kernel_rfl
theorem laidOut : laidOutB Try.prog = true := by kernel_rfl
set_option maxRecDepth 100000 in
theorem lifted (os : Os) (started : os.Started) (H : Type) (enc : TypeId × Value → H) :
    ReturnsInHanded {} Try.checked os 5 .any (Rows.fnPacketBytesSpec.pre6 enc Try.prog Try.f5 Rows.fnPacketBytesRow.domain false) (Rows.fnPacketBytesSpec.post enc Try.prog Try.f5 false true false false) := by
  refine returnsInHanded_of_change (C := Try.checked) own started (by kernel_rfl) Try.func5
    (ChangeSpec.witness6 (enc := enc) (C := Try.checked) false ⟨#[], #[.slice none 0 0], []⟩ 8 (by kernel_rfl) (by kernel_rfl) (by kernel_rfl) (by kernel_rfl)) ?_
  intro W base args ds gs before hval0 hW hcnd _
  have hval : ∀ (j : Nat) t v, Try.f5.params[j]? = some t → args[j]? = some v → Value.okWide Try.prog W .any base t v := hval0
  have hW' := hW
  obtain ⟨p, q, hA0, hV, rfl, hfz, hnd⟩ := hW
  have hA : DataW.TrodAll enc Try.prog W 0 (fun _ => true) true Try.f5.params.toList args.toList ds p := hA0
  rw [Try.params5] at hA hval
  obtain ⟨v0, vs0, d0, ds0, p0, q0, hargs, rfl, rfl, h0, r0⟩ := trodAll_cons hA
  obtain ⟨rfl, rfl, rfl⟩ := trodAll_nil r0
  obtain rfl : args = #[v0] := by cases args; simp_all
  obtain ⟨rfl, rfl⟩ := trodVars_none hV
  have k0 := h0
  have lt0 : ∀ x ∈ p0, x.block < W.heap.size := by obtain ⟨m, hm⟩ := k0; exact DataW.trod_lt m _ _ _ hm
  obtain ⟨A0, n0, c0, rs0, hv0, hlen0, hnc0, hcm0, hrd0, _⟩ := open_slice_of cB (fun _ => True) 1 cB_len Try.underlying22 (by kernel_rfl) (by decide) (fun _ _ _ hh => el_byte Try.underlying5 hh) h0.choose_spec
  obtain ⟨_, _, _, rfl⟩ := okWide_slice Try.underlying22 (hval 0 22 v0 rfl rfl)
  simp only [Value.cells, List.cons.injEq, Value.slice.injEq, and_true] at hv0
  obtain ⟨rfl, rfl, rfl⟩ := hv0
  clear hA0 hval0
  refine (fnPacketBytes_walk (w := W) _ _ _ rs0 hlen0 hnc0 hcm0 hrd0).mono fun e W' ⟨he, bel⟩ => ?_
  subst he
  exact ⟨_, rfl, _, _, _, [], _, [], hW', trodAll_mk1 (shut_bool Try.underlying4 _), (trodAll_cons_mk (Below.trod laidOut (by kernel_rfl) (of_decide_eq_true (by kernel_rfl)) k0 bel lt0) trodAll_mk0), rfl, bel.frame _, fun h => by cases h⟩
theorem proved : Rows.FnPacketBytesSaid :=
  OpenClaim.holds_of_wide 5 Try.f5 rfl rfl rfl rfl rfl rfl rfl ⟨rfl, rfl, rfl, rfl, rfl⟩ rfl rfl rfl rfl rfl (by kernel_rfl) Try.func5 (by kernel_rfl)
    (of_decide_eq_true (by kernel_rfl)) (by unfold Func.isWrapper; first | (rw [if_pos (by decide +kernel)]; kernel_rfl) | (rw [if_neg (by decide +kernel)]; exact ⟨rfl, rfl⟩))
    (fun os started H enc _ => lifted os started H enc)
end fnPacketBytesDone
end Go.Proofs.Ytmcgmiapbdoocaa
