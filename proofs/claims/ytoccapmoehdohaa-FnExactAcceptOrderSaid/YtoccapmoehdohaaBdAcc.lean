/- Contracts: an order is accepted, in the program and in the reference. No condition. -/
import Derived.Test.YtoccapmoehdohaaBdStep
import Derived.Test.YtoccapmoehdohaaInsert
import Derived.Test.YtoccapmoehdohaaDrawnJ
namespace Go.Proofs.Ytoccapmoehdohaa
open Go.RowKit
set_option linter.unusedSimpArgs false
set_option linter.unusedVariables false

theorem insertWaiting_at {base : Nat} {A : Option Addr} {n c k q : Nat} {os : List EWaiting} {x : EWaiting} (w : World) (hn : os.length = n) (hk : k ≤ n) (hb : n ≤ 1048576) (h_q : w.heap[q]? = some (.cells #[.int .i64 x.f0, .int .i64 x.f1, .int .i64 x.f2, .int .i64 x.f3, .int .i64 x.f4] 45 (0, 0))) (hne : A.map (·.block) ≠ some q) (hbase : base ≤ w.heap.size) (o_z : w.ownsRow base 45 5 (.slice A n c) n (os.flatMap cWaiting)) :
    Calls Try.prog 42 #[.slice A n c, .int .i64 ((k : Nat) : Int), .slice (some ⟨q, 0, none⟩) 1 1] w fun e w' => ∃ A' c', e = .returned (.slice A' (n + 1) c') ∧ Apped w w' base 45 5 A A' (n + 1) c' ((insL os k x).flatMap cWaiting) := by
  subst hn
  exact insertWaiting_any w hk hb h_q hne hbase o_z
/-- Where an order of a time goes. -/
def accN (os : List EWaiting) (t : Int) : Nat → Nat
  | 0 => 0
  | n + 1 => if t < (wAt os n).f2 then accN os t n else n + 1
def accPos (os : List EWaiting) (t : Int) : Nat := accN os t os.length
theorem accN_le (os : List EWaiting) (t : Int) : ∀ n, accN os t n ≤ n
  | 0 => Nat.le_refl _
  | n + 1 => by
    have := accN_le os t n
    unfold accN
    split <;> omega
theorem accN_go {os : List EWaiting} {t : Int} {k : Nat} (h0 : 0 < k) (hk : k - 1 < os.length) (h : t < os[k - 1].f2) (hp : accN os t k = accPos os t) : accN os t (k - 1) = accPos os t := by
  obtain ⟨m, rfl⟩ : ∃ m, k = m + 1 := ⟨k - 1, by omega⟩
  rw [← hp]
  simp only [Nat.add_sub_cancel] at hk h ⊢
  rw [accN, wAt_eq hk, if_pos h]
theorem accN_stop {os : List EWaiting} {t : Int} {k : Nat} (h : ¬ 0 < k ∨ ∃ hk : k - 1 < os.length, ¬ t < os[k - 1].f2) (hp : accN os t k = accPos os t) : k = accPos os t := by
  rw [← hp]
  cases k with
  | zero => rfl
  | succ m =>
    rcases h with h | ⟨hk, h⟩
    · omega
    · simp only [Nat.add_sub_cancel] at hk h
      rw [accN, wAt_eq hk, if_neg h]
def accC (b : EBoard) (ok ot oa ob : Int) : EBoard :=
  if b.os.length < 40 then { b with taken := b.taken + 1, os := insL b.os (accPos b.os ot) ⟨b.taken, ok, ot, oa, ob⟩ } else { b with taken := b.taken + 1, ds := b.ds ++ [⟨b.taken, b.clk, 0⟩] }
def bdAcc (b : EBoard) (ok ot oa ob : Int) : EBoard × Bool :=
  if boOk b && (ordOk ok ot oa ob && boOk (accC b ok ot oa ob)) then (accC b ok ot oa ob, decide (b.os.length < 40)) else (b, false)
theorem acc_room {b : EBoard} {ok ot oa ob : Int} (h : b.os.length < 40) : accC b ok ot oa ob = ⟨b.clk, b.ps, b.safe, b.ls, insL b.os (accPos b.os ot) ⟨b.taken, ok, ot, oa, ob⟩, b.ds, b.room, b.rs, b.xs, b.made, b.taken + 1, b.qs⟩ := by unfold accC; rw [if_pos h]
theorem acc_full {b : EBoard} {ok ot oa ob : Int} (h : ¬ b.os.length < 40) : accC b ok ot oa ob = ⟨b.clk, b.ps, b.safe, b.ls, b.os, b.ds ++ [⟨b.taken, b.clk, 0⟩], b.room, b.rs, b.xs, b.made, b.taken + 1, b.qs⟩ := by unfold accC; rw [if_neg h]
theorem insL_app {α : Type} (os : List α) (k : Nat) (x : α) : (os.take k ++ [x]) ++ os.drop k = insL os k x := by unfold insL; simp
theorem bdAcc_no {b : EBoard} {ok ot oa ob : Int} (h : boOk b = false ∨ ordOk ok ot oa ob = false ∨ boOk (accC b ok ot oa ob) = false) : bdAcc b ok ot oa ob = (b, false) := by
  unfold bdAcc
  rcases h with h | h | h <;> simp [h]
theorem bdAcc_yes {b : EBoard} {ok ot oa ob : Int} (h1 : boOk b = true) (h2 : ordOk ok ot oa ob = true) (h3 : boOk (accC b ok ot oa ob) = true) : bdAcc b ok ot oa ob = (accC b ok ot oa ob, decide (b.os.length < 40)) := by
  unfold bdAcc
  rw [h1, h2, h3]
  rfl
theorem bdAcc_w {b : EBoard} {ok ot oa ob : Int} (h : BdW b) : BdW (bdAcc b ok ot oa ob).1 := by
  unfold bdAcc
  split
  · rename_i h1
    simp only [Bool.and_eq_true] at h1
    exact boOk_w h1.2.2
  · exact h
set_option maxRecDepth 100000 in
set_option maxHeartbeats 4000000 in
theorem acceptOrder_any {S : BSl} {b : EBoard} {ok ot oa ob : Int} (w : World) (hR : RdB w S b) (hW : BdW b) :
    Calls Try.prog 13 #[bdV S b, .agg #[.int .i64 ok, .int .i64 ot, .int .i64 oa, .int .i64 ob]] w fun e w' => ∃ S', e = .returned (.tuple #[bdV S' (bdAcc b ok ot oa ob).1, .bool (bdAcc b ok ot oa ob).2]) ∧ OwnB w' w.heap.size S' (bdAcc b ok ot oa ob).1 ∧ Below w.heap.size w w' := by
  obtain ⟨⟨pA, pn, pc⟩, ⟨lA, ln, lc⟩, ⟨oA, on, oc⟩, ⟨dA, dn, dc⟩, ⟨rA, rn, rc⟩, ⟨xA, xn, xc⟩, ⟨qA, qn, qc⟩⟩ := S
  obtain ⟨⟨hr_p, hl_p, hnn_p, hnc_p⟩, ⟨hr_l, hl_l, hnn_l, hnc_l⟩, ⟨hr_o, hl_o, hnn_o, hnc_o⟩, ⟨hr_d, hl_d, hnn_d, hnc_d⟩, ⟨hr_r, hl_r, hnn_r, hnc_r⟩, ⟨hr_x, hl_x, hnn_x, hnc_x⟩, ⟨hr_q, hl_q, hnn_q, hnc_q⟩⟩ := hR
  change b.ps.length = pn at hl_p
  subst pn
  change Rd _ 1 pA b.ps.length (b.ps.flatMap cI) at hr_p
  change pA = none → b.ps.length = 0 ∧ pc = 0 at hnn_p
  change b.ps.length ≤ pc at hnc_p
  change b.ls.length = ln at hl_l
  subst ln
  change Rd _ 3 lA b.ls.length (b.ls.flatMap cLimit) at hr_l
  change lA = none → b.ls.length = 0 ∧ lc = 0 at hnn_l
  change b.ls.length ≤ lc at hnc_l
  change b.os.length = on at hl_o
  subst on
  change Rd _ 5 oA b.os.length (b.os.flatMap cWaiting) at hr_o
  change oA = none → b.os.length = 0 ∧ oc = 0 at hnn_o
  change b.os.length ≤ oc at hnc_o
  change b.ds.length = dn at hl_d
  subst dn
  change Rd _ 3 dA b.ds.length (b.ds.flatMap cDone) at hr_d
  change dA = none → b.ds.length = 0 ∧ dc = 0 at hnn_d
  change b.ds.length ≤ dc at hnc_d
  change b.rs.length = rn at hl_r
  subst rn
  change Rd _ 4 rA b.rs.length (b.rs.flatMap cRecord) at hr_r
  change rA = none → b.rs.length = 0 ∧ rc = 0 at hnn_r
  change b.rs.length ≤ rc at hnc_r
  change b.xs.length = xn at hl_x
  subst xn
  change Rd _ 1 xA b.xs.length (b.xs.flatMap cI) at hr_x
  change xA = none → b.xs.length = 0 ∧ xc = 0 at hnn_x
  change b.xs.length ≤ xc at hnc_x
  change b.qs.length = qn at hl_q
  subst qn
  change Rd _ 1 qA b.qs.length (b.qs.flatMap cI) at hr_q
  change qA = none → b.qs.length = 0 ∧ qc = 0 at hnn_q
  change b.qs.length ≤ qc at hnc_q
  have hW1 := hW.ps
  have hW2 := hW.ls
  have hW3 := hW.os
  have hW4 := hW.ds
  have hW5 := hW.rs
  have hW6 := hW.xs
  have hW7 := hW.qs
  refine enter 79 Try.func13 rfl rfl (Nat.le_of_ble_eq_true rfl) ?_
  intro a0 hs hargs
  have s0 : a0.eval (.tmp 0) = .agg #[.int .i64 b.clk, .slice pA b.ps.length pc, .bool b.safe, .slice lA b.ls.length lc, .slice oA b.os.length oc, .slice dA b.ds.length dc, .int .i64 b.room, .slice rA b.rs.length rc, .slice xA b.xs.length xc, .int .i64 b.made, .int .i64 b.taken, .slice qA b.qs.length qc] := hargs 0 _ rfl
  have s1 : a0.eval (.tmp 1) = .agg #[.int .i64 ok, .int .i64 ot, .int .i64 oa, .int .i64 ob] := hargs 1 _ rfl
  clear hargs
  have hB : Below w.heap.size w w := Below.refl _ _
  refine wp_seq_k fun K1 hK1 => ?_
  refine wp_region_lit ?_
  refine q_v hs rfl rfl rfl ?_
  refine g_box rfl s0 rfl ?_
  intro q2 w3 N_q2
  replace hB := below_new hB hB.size N_q2
  have h_q2 := N_q2.here
  clear N_q2
  intro a1 p1
  refine q_v p1.s rfl rfl rfl ?_
  refine g_box rfl (p1.k s1 rfl) rfl ?_
  intro q4 w5 N_q4
  replace h_q2 := keep_below h_q2 N_q4.below
  replace hB := below_new hB hB.size N_q4
  have h_q4 := N_q4.here
  clear N_q4
  intro a2 p2
  refine q_v p2.s rfl rfl rfl ?_
  refine g_alloc rfl Try.zeroValue32 rfl ?_
  intro q6 w7 N_q6
  have n_q2_q6 := N_q6.ne ⟨lt_of_block h_q2⟩
  have n_q6_q2 := n_q2_q6.symm
  have n_q4_q6 := N_q6.ne ⟨lt_of_block h_q4⟩
  have n_q6_q4 := n_q4_q6.symm
  have g_q6 : GeB w.heap.size q6 := ⟨Nat.le_trans hB.size N_q6.lo⟩
  replace h_q2 := keep_below h_q2 N_q6.below
  replace h_q4 := keep_below h_q4 N_q6.below
  replace hB := below_new hB hB.size N_q6
  have h_q6 := N_q6.here
  clear N_q6
  intro a3 p3
  refine q_v p3.s rfl rfl rfl (g_assign rfl rfl ?_)
  intro a4 p4
  have s5 : a4.eval (.tmp 5) = .bool false := p4.v
  refine wpList_nil ?_
  replace s2 := p4.k (p3.k (p2.k p1.v rfl) rfl) rfl
  replace s3 := p4.k (p3.k p2.v rfl) rfl
  replace s4 := p4.k p3.v rfl
  refine hK1 _ _ ?_
  clear hK1
  refine wp_seq_k fun K8 hK8 => ?_
  refine wp_seq_k fun K9 hK9 => ?_
  refine wp_region_lit ?_
  refine q_v p4.s rfl rfl rfl (g_loadB rfl s2 Try.isAgg32 Try.sizeOf32 rfl h_q2 ?_)
  intro a5 p5
  refine q_v p5.s rfl rfl rfl ?_
  refine g_call rfl rfl Try.call21 (arr1 p5.v) ?_
  refine (boardOk_any (S := (⟨⟨pA, b.ps.length, pc⟩, ⟨lA, b.ls.length, lc⟩, ⟨oA, b.os.length, oc⟩, ⟨dA, b.ds.length, dc⟩, ⟨rA, b.rs.length, rc⟩, ⟨xA, b.xs.length, xc⟩, ⟨qA, b.qs.length, qc⟩⟩ : BSl)) (b := b) _ ⟨⟨(hr_p.below hB), rfl, hnn_p, hnc_p⟩, ⟨(hr_l.below hB), rfl, hnn_l, hnc_l⟩, ⟨(hr_o.below hB), rfl, hnn_o, hnc_o⟩, ⟨(hr_d.below hB), rfl, hnn_d, hnc_d⟩, ⟨(hr_r.below hB), rfl, hnn_r, hnc_r⟩, ⟨(hr_x.below hB), rfl, hnn_x, hnc_x⟩, ⟨(hr_q.below hB), rfl, hnn_q, hnc_q⟩⟩ hW).mono ?_
  rintro e w11 ⟨rfl, hb10⟩
  refine ⟨_, rfl, ?_⟩
  replace h_q2 := keep_below h_q2 hb10
  replace h_q4 := keep_below h_q4 hb10
  replace h_q6 := keep_below h_q6 hb10
  replace hB := hB.trans (hb10.mono hB.size)
  clear hb10
  intro a6 p6
  refine q_v p6.s rfl rfl rfl (g_not rfl p6.v ?_)
  intro a7 p7
  refine q_v p7.s rfl rfl rfl (g_move rfl p7.v ?_)
  intro a8 p8
  cases h1 : boOk b
  · have s11 : a6.eval (.tmp 11) = .bool false := (p6.v).trans (congrArg Value.bool h1)
    have s12 : a7.eval (.tmp 12) = .bool true := (p7.v).trans (congrArg (fun b => Value.bool (!b)) h1)
    have s13 : a8.eval (.tmp 13) = .bool true := (p8.v).trans (congrArg (fun b => Value.bool (!b)) h1)
    refine q_s p8.s rfl rfl s13 rfl rfl ?_
    intro a9 p9
    refine q_s p9.s rfl rfl (p9.k s13 rfl) rfl rfl ?_
    intro a10 p10
    refine q_s p10.s rfl rfl (p10.k (p9.k s13 rfl) rfl) rfl rfl ?_
    intro a11 p11
    refine q_v p11.s rfl rfl rfl (g_pick_t rfl (p11.k (p10.k (p9.k s13 rfl) rfl) rfl) rfl ?_)
    intro a12 p12
    have s17 : a12.eval (.tmp 17) = .bool true := p12.v
    refine wpList_nil ?_
    have kc4 := ((((((((Kps.nil a4).u p5).u p6).u p7).u p8).u p9).u p10).u p11).u p12
    replace s2 := kc4.k s2 rfl
    replace s3 := kc4.k s3 rfl
    replace s4 := kc4.k s4 rfl
    replace s5 := kc4.k s5 rfl
    clear kc4
    refine hK9 _ _ ?_
    clear hK9
    refine c_true s17 ?_
    refine wp_seq_k fun K12 hK12 => ?_
    refine wp_region_lit ?_
    refine q_v p12.s rfl rfl rfl (g_loadB rfl s2 Try.isAgg32 Try.sizeOf32 rfl h_q2 ?_)
    intro a13 p13
    refine q_v p13.s rfl rfl rfl ?_
    refine g_call rfl rfl Try.call41 (arr1 p13.v) ?_
    refine (cloneBoard_any (S := (⟨⟨pA, b.ps.length, pc⟩, ⟨lA, b.ls.length, lc⟩, ⟨oA, b.os.length, oc⟩, ⟨dA, b.ds.length, dc⟩, ⟨rA, b.rs.length, rc⟩, ⟨xA, b.xs.length, xc⟩, ⟨qA, b.qs.length, qc⟩⟩ : BSl)) (b := b) _ ⟨⟨(hr_p.below hB), rfl, hnn_p, hnc_p⟩, ⟨(hr_l.below hB), rfl, hnn_l, hnc_l⟩, ⟨(hr_o.below hB), rfl, hnn_o, hnc_o⟩, ⟨(hr_d.below hB), rfl, hnn_d, hnc_d⟩, ⟨(hr_r.below hB), rfl, hnn_r, hnc_r⟩, ⟨(hr_x.below hB), rfl, hnn_x, hnc_x⟩, ⟨(hr_q.below hB), rfl, hnn_q, hnc_q⟩⟩ hW).mono ?_
    rintro e w14 ⟨⟨⟨pA13, pn13, pc13⟩, ⟨lA13, ln13, lc13⟩, ⟨oA13, on13, oc13⟩, ⟨dA13, dn13, dc13⟩, ⟨rA13, rn13, rc13⟩, ⟨xA13, xn13, xc13⟩, ⟨qA13, qn13, qc13⟩⟩, rfl, ⟨o_p13, o_l13, o_o13, o_d13, o_r13, o_x13, o_q13, ma13, mb13, mc13⟩, hb13⟩
    refine ⟨_, rfl, ?_⟩
    have ep13 : b.ps.length = pn13 := own_lenI o_p13
    subst pn13
    have el13 : b.ls.length = ln13 := own_lenOf (by decide) cLimit_len o_l13
    subst ln13
    have eo13 : b.os.length = on13 := own_lenOf (by decide) cWaiting_len o_o13
    subst on13
    have ed13 : b.ds.length = dn13 := own_lenOf (by decide) cDone_len o_d13
    subst dn13
    have er13 : b.rs.length = rn13 := own_lenOf (by decide) cRecord_len o_r13
    subst rn13
    have ex13 : b.xs.length = xn13 := own_lenI o_x13
    subst xn13
    have eq13 : b.qs.length = qn13 := own_lenI o_q13
    subst qn13
    change w14.ownsRow w11.heap.size 3 1 (.slice pA13 b.ps.length pc13) b.ps.length (b.ps.flatMap cI) at o_p13
    change w14.ownsRow w11.heap.size 36 3 (.slice lA13 b.ls.length lc13) b.ls.length (b.ls.flatMap cLimit) at o_l13
    change w14.ownsRow w11.heap.size 45 5 (.slice oA13 b.os.length oc13) b.os.length (b.os.flatMap cWaiting) at o_o13
    change w14.ownsRow w11.heap.size 51 3 (.slice dA13 b.ds.length dc13) b.ds.length (b.ds.flatMap cDone) at o_d13
    change w14.ownsRow w11.heap.size 47 4 (.slice rA13 b.rs.length rc13) b.rs.length (b.rs.flatMap cRecord) at o_r13
    change w14.ownsRow w11.heap.size 3 1 (.slice xA13 b.xs.length xc13) b.xs.length (b.xs.flatMap cI) at o_x13
    change w14.ownsRow w11.heap.size 3 1 (.slice qA13 b.qs.length qc13) b.qs.length (b.qs.flatMap cI) at o_q13
    have m_p13_x13 := ma13
    have m_p13_q13 := mb13
    have m_x13_q13 := mc13
    have d_p13_q6 := own_ne_box o_p13 (lt_of_block h_q6)
    replace o_p13 := own_base (base := w.heap.size) o_p13 hB.size
    have d_l13_q6 := own_ne_box o_l13 (lt_of_block h_q6)
    replace o_l13 := own_base (base := w.heap.size) o_l13 hB.size
    have d_o13_q6 := own_ne_box o_o13 (lt_of_block h_q6)
    replace o_o13 := own_base (base := w.heap.size) o_o13 hB.size
    have d_d13_q6 := own_ne_box o_d13 (lt_of_block h_q6)
    replace o_d13 := own_base (base := w.heap.size) o_d13 hB.size
    have d_r13_q6 := own_ne_box o_r13 (lt_of_block h_q6)
    replace o_r13 := own_base (base := w.heap.size) o_r13 hB.size
    have d_x13_q6 := own_ne_box o_x13 (lt_of_block h_q6)
    replace o_x13 := own_base (base := w.heap.size) o_x13 hB.size
    have d_q13_q6 := own_ne_box o_q13 (lt_of_block h_q6)
    replace o_q13 := own_base (base := w.heap.size) o_q13 hB.size
    replace h_q2 := keep_below h_q2 hb13
    replace h_q4 := keep_below h_q4 hb13
    replace h_q6 := keep_below h_q6 hb13
    replace hB := hB.trans (hb13.mono hB.size)
    clear hb13
    intro a14 p14
    refine q_eff rfl rfl ?_
    refine g_storeB rfl (p14.k (p13.k s4 rfl) rfl) p14.v Try.sizeOf32 rfl rfl h_q6 rfl ?_
    intro w15 W_w15
    replace h_q2 := keep_wrote h_q2 W_w15 n_q6_q2
    replace h_q4 := keep_wrote h_q4 W_w15 n_q6_q4
    replace h_q6 := W_w15.here
    replace o_p13 := own_wrote o_p13 W_w15 d_p13_q6
    replace o_l13 := own_wrote o_l13 W_w15 d_l13_q6
    replace o_o13 := own_wrote o_o13 W_w15 d_o13_q6
    replace o_d13 := own_wrote o_d13 W_w15 d_d13_q6
    replace o_r13 := own_wrote o_r13 W_w15 d_r13_q6
    replace o_x13 := own_wrote o_x13 W_w15 d_x13_q6
    replace o_q13 := own_wrote o_q13 W_w15 d_q13_q6
    replace hB := below_wrote hB hB.size W_w15 g_q6.le
    clear W_w15
    refine q_v p14.s rfl rfl rfl (g_assign rfl rfl ?_)
    intro a15 p15
    have s5 : a15.eval (.tmp 5) = .bool false := p15.v
    refine wpList_nil ?_
    have kc12 := (((Kps.nil a12).u p13).u p14).u p15
    replace s2 := kc12.k s2 rfl
    replace s3 := kc12.k s3 rfl
    replace s4 := kc12.k s4 rfl
    clear kc12
    refine hK12 _ _ ?_
    clear hK12
    refine wp_ret ?_
    try dsimp only [Exit.then, Exit.inBlock]
    refine ret2 p15.s Try.results13 (res_cell s4 h_q6 Try.isAgg32 Try.sizeOf32 rfl) (res_tmp s5) ?_
    rw [bdAcc_no (.inl h1)]
    exact ⟨⟨⟨pA13, b.ps.length, pc13⟩, ⟨lA13, b.ls.length, lc13⟩, ⟨oA13, b.os.length, oc13⟩, ⟨dA13, b.ds.length, dc13⟩, ⟨rA13, b.rs.length, rc13⟩, ⟨xA13, b.xs.length, xc13⟩, ⟨qA13, b.qs.length, qc13⟩⟩, rfl, ⟨o_p13, o_l13, o_o13, o_d13, o_r13, o_x13, o_q13, m_p13_x13, m_p13_q13, m_x13_q13⟩, hB⟩
  have hbo := boOk_parts h1
  obtain ⟨ht0, ht1⟩ := hbo.taken
  have hds5 := hbo.dsn
  have hos5 := hbo.osn
  have s11 : a6.eval (.tmp 11) = .bool true := (p6.v).trans (congrArg Value.bool h1)
  have s12 : a7.eval (.tmp 12) = .bool false := (p7.v).trans (congrArg (fun b => Value.bool (!b)) h1)
  have s13 : a8.eval (.tmp 13) = .bool false := (p8.v).trans (congrArg (fun b => Value.bool (!b)) h1)
  refine q_t p8.s rfl rfl s13 rfl rfl (g_loadB rfl (p8.k (p7.k (p6.k (p5.k s3 rfl) rfl) rfl) rfl) Try.isAgg40 Try.sizeOf40 rfl h_q4 ?_)
  intro a9 p9
  refine q_t p9.s rfl rfl (p9.k s13 rfl) rfl rfl ?_
  refine g_call rfl rfl Try.call40 (arr1 p9.v) ?_
  refine (orderOk_any _ _ _ _ _).mono ?_
  rintro e w17 ⟨rfl, hb16⟩
  refine ⟨_, rfl, ?_⟩
  replace h_q2 := keep_below h_q2 hb16
  replace h_q4 := keep_below h_q4 hb16
  replace h_q6 := keep_below h_q6 hb16
  replace hB := hB.trans (hb16.mono hB.size)
  clear hb16
  intro a10 p10
  refine q_t p10.s rfl rfl (p10.k (p9.k s13 rfl) rfl) rfl rfl (g_not rfl p10.v ?_)
  intro a11 p11
  refine q_v p11.s rfl rfl rfl (g_pick_f rfl (p11.k (p10.k (p9.k s13 rfl) rfl) rfl) p11.v ?_)
  intro a12 p12
  have s17 : a12.eval (.tmp 17) = .bool (!(ordOk ok ot oa ob)) := p12.v
  refine wpList_nil ?_
  have kc4 := ((((((((Kps.nil a4).u p5).u p6).u p7).u p8).u p9).u p10).u p11).u p12
  replace s2 := kc4.k s2 rfl
  replace s3 := kc4.k s3 rfl
  replace s4 := kc4.k s4 rfl
  replace s5 := kc4.k s5 rfl
  clear kc4
  refine hK9 _ _ ?_
  clear hK9
  cases h2 : ordOk ok ot oa ob
  · replace s17 : a12.eval (.tmp 17) = .bool true := (s17).trans (congrArg (fun b => Value.bool (!b)) h2)
    refine c_true s17 ?_
    refine wp_seq_k fun K18 hK18 => ?_
    refine wp_region_lit ?_
    refine q_v p12.s rfl rfl rfl (g_loadB rfl s2 Try.isAgg32 Try.sizeOf32 rfl h_q2 ?_)
    intro a13 p13
    refine q_v p13.s rfl rfl rfl ?_
    refine g_call rfl rfl Try.call41 (arr1 p13.v) ?_
    refine (cloneBoard_any (S := (⟨⟨pA, b.ps.length, pc⟩, ⟨lA, b.ls.length, lc⟩, ⟨oA, b.os.length, oc⟩, ⟨dA, b.ds.length, dc⟩, ⟨rA, b.rs.length, rc⟩, ⟨xA, b.xs.length, xc⟩, ⟨qA, b.qs.length, qc⟩⟩ : BSl)) (b := b) _ ⟨⟨(hr_p.below hB), rfl, hnn_p, hnc_p⟩, ⟨(hr_l.below hB), rfl, hnn_l, hnc_l⟩, ⟨(hr_o.below hB), rfl, hnn_o, hnc_o⟩, ⟨(hr_d.below hB), rfl, hnn_d, hnc_d⟩, ⟨(hr_r.below hB), rfl, hnn_r, hnc_r⟩, ⟨(hr_x.below hB), rfl, hnn_x, hnc_x⟩, ⟨(hr_q.below hB), rfl, hnn_q, hnc_q⟩⟩ hW).mono ?_
    rintro e w20 ⟨⟨⟨pA19, pn19, pc19⟩, ⟨lA19, ln19, lc19⟩, ⟨oA19, on19, oc19⟩, ⟨dA19, dn19, dc19⟩, ⟨rA19, rn19, rc19⟩, ⟨xA19, xn19, xc19⟩, ⟨qA19, qn19, qc19⟩⟩, rfl, ⟨o_p19, o_l19, o_o19, o_d19, o_r19, o_x19, o_q19, ma19, mb19, mc19⟩, hb19⟩
    refine ⟨_, rfl, ?_⟩
    have ep19 : b.ps.length = pn19 := own_lenI o_p19
    subst pn19
    have el19 : b.ls.length = ln19 := own_lenOf (by decide) cLimit_len o_l19
    subst ln19
    have eo19 : b.os.length = on19 := own_lenOf (by decide) cWaiting_len o_o19
    subst on19
    have ed19 : b.ds.length = dn19 := own_lenOf (by decide) cDone_len o_d19
    subst dn19
    have er19 : b.rs.length = rn19 := own_lenOf (by decide) cRecord_len o_r19
    subst rn19
    have ex19 : b.xs.length = xn19 := own_lenI o_x19
    subst xn19
    have eq19 : b.qs.length = qn19 := own_lenI o_q19
    subst qn19
    change w20.ownsRow w17.heap.size 3 1 (.slice pA19 b.ps.length pc19) b.ps.length (b.ps.flatMap cI) at o_p19
    change w20.ownsRow w17.heap.size 36 3 (.slice lA19 b.ls.length lc19) b.ls.length (b.ls.flatMap cLimit) at o_l19
    change w20.ownsRow w17.heap.size 45 5 (.slice oA19 b.os.length oc19) b.os.length (b.os.flatMap cWaiting) at o_o19
    change w20.ownsRow w17.heap.size 51 3 (.slice dA19 b.ds.length dc19) b.ds.length (b.ds.flatMap cDone) at o_d19
    change w20.ownsRow w17.heap.size 47 4 (.slice rA19 b.rs.length rc19) b.rs.length (b.rs.flatMap cRecord) at o_r19
    change w20.ownsRow w17.heap.size 3 1 (.slice xA19 b.xs.length xc19) b.xs.length (b.xs.flatMap cI) at o_x19
    change w20.ownsRow w17.heap.size 3 1 (.slice qA19 b.qs.length qc19) b.qs.length (b.qs.flatMap cI) at o_q19
    have m_p19_x19 := ma19
    have m_p19_q19 := mb19
    have m_x19_q19 := mc19
    have d_p19_q6 := own_ne_box o_p19 (lt_of_block h_q6)
    replace o_p19 := own_base (base := w.heap.size) o_p19 hB.size
    have d_l19_q6 := own_ne_box o_l19 (lt_of_block h_q6)
    replace o_l19 := own_base (base := w.heap.size) o_l19 hB.size
    have d_o19_q6 := own_ne_box o_o19 (lt_of_block h_q6)
    replace o_o19 := own_base (base := w.heap.size) o_o19 hB.size
    have d_d19_q6 := own_ne_box o_d19 (lt_of_block h_q6)
    replace o_d19 := own_base (base := w.heap.size) o_d19 hB.size
    have d_r19_q6 := own_ne_box o_r19 (lt_of_block h_q6)
    replace o_r19 := own_base (base := w.heap.size) o_r19 hB.size
    have d_x19_q6 := own_ne_box o_x19 (lt_of_block h_q6)
    replace o_x19 := own_base (base := w.heap.size) o_x19 hB.size
    have d_q19_q6 := own_ne_box o_q19 (lt_of_block h_q6)
    replace o_q19 := own_base (base := w.heap.size) o_q19 hB.size
    replace h_q2 := keep_below h_q2 hb19
    replace h_q4 := keep_below h_q4 hb19
    replace h_q6 := keep_below h_q6 hb19
    replace hB := hB.trans (hb19.mono hB.size)
    clear hb19
    intro a14 p14
    refine q_eff rfl rfl ?_
    refine g_storeB rfl (p14.k (p13.k s4 rfl) rfl) p14.v Try.sizeOf32 rfl rfl h_q6 rfl ?_
    intro w21 W_w21
    replace h_q2 := keep_wrote h_q2 W_w21 n_q6_q2
    replace h_q4 := keep_wrote h_q4 W_w21 n_q6_q4
    replace h_q6 := W_w21.here
    replace o_p19 := own_wrote o_p19 W_w21 d_p19_q6
    replace o_l19 := own_wrote o_l19 W_w21 d_l19_q6
    replace o_o19 := own_wrote o_o19 W_w21 d_o19_q6
    replace o_d19 := own_wrote o_d19 W_w21 d_d19_q6
    replace o_r19 := own_wrote o_r19 W_w21 d_r19_q6
    replace o_x19 := own_wrote o_x19 W_w21 d_x19_q6
    replace o_q19 := own_wrote o_q19 W_w21 d_q19_q6
    replace hB := below_wrote hB hB.size W_w21 g_q6.le
    clear W_w21
    refine q_v p14.s rfl rfl rfl (g_assign rfl rfl ?_)
    intro a15 p15
    have s5 : a15.eval (.tmp 5) = .bool false := p15.v
    refine wpList_nil ?_
    have kc12 := (((Kps.nil a12).u p13).u p14).u p15
    replace s2 := kc12.k s2 rfl
    replace s3 := kc12.k s3 rfl
    replace s4 := kc12.k s4 rfl
    clear kc12
    refine hK18 _ _ ?_
    clear hK18
    refine wp_ret ?_
    try dsimp only [Exit.then, Exit.inBlock]
    refine ret2 p15.s Try.results13 (res_cell s4 h_q6 Try.isAgg32 Try.sizeOf32 rfl) (res_tmp s5) ?_
    rw [bdAcc_no (.inr (.inl h2))]
    exact ⟨⟨⟨pA19, b.ps.length, pc19⟩, ⟨lA19, b.ls.length, lc19⟩, ⟨oA19, b.os.length, oc19⟩, ⟨dA19, b.ds.length, dc19⟩, ⟨rA19, b.rs.length, rc19⟩, ⟨xA19, b.xs.length, xc19⟩, ⟨qA19, b.qs.length, qc19⟩⟩, rfl, ⟨o_p19, o_l19, o_o19, o_d19, o_r19, o_x19, o_q19, m_p19_x19, m_p19_q19, m_x19_q19⟩, hB⟩
  replace s17 : a12.eval (.tmp 17) = .bool false := (s17).trans (congrArg (fun b => Value.bool (!b)) h2)
  refine c_false s17 ?_
  refine wp_skip ?_
  refine hK8 _ _ ?_
  clear hK8
  refine wp_seq_k fun K22 hK22 => ?_
  refine wp_region_lit ?_
  refine q_v p12.s rfl rfl rfl (g_loadB rfl s2 Try.isAgg32 Try.sizeOf32 rfl h_q2 ?_)
  intro a13 p13
  refine q_v p13.s rfl rfl rfl ?_
  refine g_call rfl rfl Try.call41 (arr1 p13.v) ?_
  refine (cloneBoard_any (S := (⟨⟨pA, b.ps.length, pc⟩, ⟨lA, b.ls.length, lc⟩, ⟨oA, b.os.length, oc⟩, ⟨dA, b.ds.length, dc⟩, ⟨rA, b.rs.length, rc⟩, ⟨xA, b.xs.length, xc⟩, ⟨qA, b.qs.length, qc⟩⟩ : BSl)) (b := b) _ ⟨⟨(hr_p.below hB), rfl, hnn_p, hnc_p⟩, ⟨(hr_l.below hB), rfl, hnn_l, hnc_l⟩, ⟨(hr_o.below hB), rfl, hnn_o, hnc_o⟩, ⟨(hr_d.below hB), rfl, hnn_d, hnc_d⟩, ⟨(hr_r.below hB), rfl, hnn_r, hnc_r⟩, ⟨(hr_x.below hB), rfl, hnn_x, hnc_x⟩, ⟨(hr_q.below hB), rfl, hnn_q, hnc_q⟩⟩ hW).mono ?_
  rintro e w24 ⟨⟨⟨pA23, pn23, pc23⟩, ⟨lA23, ln23, lc23⟩, ⟨oA23, on23, oc23⟩, ⟨dA23, dn23, dc23⟩, ⟨rA23, rn23, rc23⟩, ⟨xA23, xn23, xc23⟩, ⟨qA23, qn23, qc23⟩⟩, rfl, ⟨o_p23, o_l23, o_o23, o_d23, o_r23, o_x23, o_q23, ma23, mb23, mc23⟩, hb23⟩
  refine ⟨_, rfl, ?_⟩
  have ep23 : b.ps.length = pn23 := own_lenI o_p23
  subst pn23
  have el23 : b.ls.length = ln23 := own_lenOf (by decide) cLimit_len o_l23
  subst ln23
  have eo23 : b.os.length = on23 := own_lenOf (by decide) cWaiting_len o_o23
  subst on23
  have ed23 : b.ds.length = dn23 := own_lenOf (by decide) cDone_len o_d23
  subst dn23
  have er23 : b.rs.length = rn23 := own_lenOf (by decide) cRecord_len o_r23
  subst rn23
  have ex23 : b.xs.length = xn23 := own_lenI o_x23
  subst xn23
  have eq23 : b.qs.length = qn23 := own_lenI o_q23
  subst qn23
  change w24.ownsRow w17.heap.size 3 1 (.slice pA23 b.ps.length pc23) b.ps.length (b.ps.flatMap cI) at o_p23
  change w24.ownsRow w17.heap.size 36 3 (.slice lA23 b.ls.length lc23) b.ls.length (b.ls.flatMap cLimit) at o_l23
  change w24.ownsRow w17.heap.size 45 5 (.slice oA23 b.os.length oc23) b.os.length (b.os.flatMap cWaiting) at o_o23
  change w24.ownsRow w17.heap.size 51 3 (.slice dA23 b.ds.length dc23) b.ds.length (b.ds.flatMap cDone) at o_d23
  change w24.ownsRow w17.heap.size 47 4 (.slice rA23 b.rs.length rc23) b.rs.length (b.rs.flatMap cRecord) at o_r23
  change w24.ownsRow w17.heap.size 3 1 (.slice xA23 b.xs.length xc23) b.xs.length (b.xs.flatMap cI) at o_x23
  change w24.ownsRow w17.heap.size 3 1 (.slice qA23 b.qs.length qc23) b.qs.length (b.qs.flatMap cI) at o_q23
  have m_p23_o23 := own_ne_type o_p23 o_o23 (by decide)
  have m_l23_o23 := own_ne_type o_l23 o_o23 (by decide)
  have m_p23_d23 := own_ne_type o_p23 o_d23 (by decide)
  have m_l23_d23 := own_ne_type o_l23 o_d23 (by decide)
  have m_o23_d23 := own_ne_type o_o23 o_d23 (by decide)
  have m_d23_o23 := ne_row_symm m_o23_d23
  have m_o23_r23 := own_ne_type o_o23 o_r23 (by decide)
  have m_r23_o23 := ne_row_symm m_o23_r23
  have m_d23_r23 := own_ne_type o_d23 o_r23 (by decide)
  have m_r23_d23 := ne_row_symm m_d23_r23
  have m_p23_x23 := ma23
  have m_o23_x23 := own_ne_type o_o23 o_x23 (by decide)
  have m_x23_o23 := ne_row_symm m_o23_x23
  have m_d23_x23 := own_ne_type o_d23 o_x23 (by decide)
  have m_x23_d23 := ne_row_symm m_d23_x23
  have m_p23_q23 := mb23
  have m_o23_q23 := own_ne_type o_o23 o_q23 (by decide)
  have m_q23_o23 := ne_row_symm m_o23_q23
  have m_d23_q23 := own_ne_type o_d23 o_q23 (by decide)
  have m_q23_d23 := ne_row_symm m_d23_q23
  have m_x23_q23 := mc23
  have d_p23_q6 := own_ne_box o_p23 (lt_of_block h_q6)
  replace o_p23 := own_base (base := w.heap.size) o_p23 hB.size
  have d_l23_q6 := own_ne_box o_l23 (lt_of_block h_q6)
  replace o_l23 := own_base (base := w.heap.size) o_l23 hB.size
  have d_o23_q2 := own_ne_box o_o23 (lt_of_block h_q2)
  have d_o23_q6 := own_ne_box o_o23 (lt_of_block h_q6)
  have g_o23 : ∀ b, (oA23 : Option Addr).map (·.block) = some b → w.heap.size ≤ b := fun b h => Nat.le_trans hB.size (own_row o_o23 b h).1
  replace o_o23 := own_base (base := w.heap.size) o_o23 hB.size
  have d_d23_q2 := own_ne_box o_d23 (lt_of_block h_q2)
  have d_d23_q6 := own_ne_box o_d23 (lt_of_block h_q6)
  have g_d23 : ∀ b, (dA23 : Option Addr).map (·.block) = some b → w.heap.size ≤ b := fun b h => Nat.le_trans hB.size (own_row o_d23 b h).1
  replace o_d23 := own_base (base := w.heap.size) o_d23 hB.size
  have d_r23_q6 := own_ne_box o_r23 (lt_of_block h_q6)
  replace o_r23 := own_base (base := w.heap.size) o_r23 hB.size
  have d_x23_q6 := own_ne_box o_x23 (lt_of_block h_q6)
  replace o_x23 := own_base (base := w.heap.size) o_x23 hB.size
  have d_q23_q6 := own_ne_box o_q23 (lt_of_block h_q6)
  replace o_q23 := own_base (base := w.heap.size) o_q23 hB.size
  replace h_q2 := keep_below h_q2 hb23
  replace h_q4 := keep_below h_q4 hb23
  replace h_q6 := keep_below h_q6 hb23
  replace hB := hB.trans (hb23.mono hB.size)
  clear hb23
  intro a14 p14
  refine q_v p14.s rfl rfl rfl ?_
  refine g_alloc rfl Try.zeroValue32 rfl ?_
  intro q25 w26 N_q25
  have n_q2_q25 := N_q25.ne ⟨lt_of_block h_q2⟩
  have n_q25_q2 := n_q2_q25.symm
  have n_q4_q25 := N_q25.ne ⟨lt_of_block h_q4⟩
  have n_q25_q4 := n_q4_q25.symm
  have n_q6_q25 := N_q25.ne ⟨lt_of_block h_q6⟩
  have n_q25_q6 := n_q6_q25.symm
  have d_p23_q25 := own_ne_new o_p23 N_q25
  have d_l23_q25 := own_ne_new o_l23 N_q25
  have d_o23_q25 := own_ne_new o_o23 N_q25
  have d_d23_q25 := own_ne_new o_d23 N_q25
  have d_r23_q25 := own_ne_new o_r23 N_q25
  have d_x23_q25 := own_ne_new o_x23 N_q25
  have d_q23_q25 := own_ne_new o_q23 N_q25
  have g_q25 : GeB w.heap.size q25 := ⟨Nat.le_trans hB.size N_q25.lo⟩
  replace h_q2 := keep_below h_q2 N_q25.below
  replace h_q4 := keep_below h_q4 N_q25.below
  replace h_q6 := keep_below h_q6 N_q25.below
  replace o_p23 := own_below o_p23 N_q25.below
  replace o_l23 := own_below o_l23 N_q25.below
  replace o_o23 := own_below o_o23 N_q25.below
  replace o_d23 := own_below o_d23 N_q25.below
  replace o_r23 := own_below o_r23 N_q25.below
  replace o_x23 := own_below o_x23 N_q25.below
  replace o_q23 := own_below o_q23 N_q25.below
  replace hB := below_new hB hB.size N_q25
  have h_q25 := N_q25.here
  clear N_q25
  intro a15 p15
  refine q_eff rfl rfl ?_
  refine g_storeB rfl p15.v (p15.k p14.v rfl) Try.sizeOf32 rfl rfl h_q25 rfl ?_
  intro w27 W_w27
  replace h_q2 := keep_wrote h_q2 W_w27 n_q25_q2
  replace h_q4 := keep_wrote h_q4 W_w27 n_q25_q4
  replace h_q6 := keep_wrote h_q6 W_w27 n_q25_q6
  replace h_q25 := W_w27.here
  replace o_p23 := own_wrote o_p23 W_w27 d_p23_q25
  replace o_l23 := own_wrote o_l23 W_w27 d_l23_q25
  replace o_o23 := own_wrote o_o23 W_w27 d_o23_q25
  replace o_d23 := own_wrote o_d23 W_w27 d_d23_q25
  replace o_r23 := own_wrote o_r23 W_w27 d_r23_q25
  replace o_x23 := own_wrote o_x23 W_w27 d_x23_q25
  replace o_q23 := own_wrote o_q23 W_w27 d_q23_q25
  replace hB := below_wrote hB hB.size W_w27 g_q25.le
  clear W_w27
  refine wpList_nil ?_
  have kc12 := (((Kps.nil a12).u p13).u p14).u p15
  replace s2 := kc12.k s2 rfl
  replace s3 := kc12.k s3 rfl
  replace s4 := kc12.k s4 rfl
  replace s5 := kc12.k s5 rfl
  replace s6 := p15.v
  clear kc12
  refine hK22 _ _ ?_
  clear hK22
  refine wp_seq_k fun K28 hK28 => ?_
  refine wp_region_lit ?_
  refine q_v p15.s rfl rfl rfl (g_field (r := 10) rfl s6 Try.underlying32 rfl (fun w => Try.sizeOf3 w) rfl rfl ?_)
  intro a16 p16
  refine q_v p16.s rfl rfl rfl (g_load rfl p16.v Try.isAgg3 (box_cell h_q25 rfl) ?_)
  intro a17 p17
  refine q_v p17.s rfl rfl rfl (g_loadB rfl (p17.k (p16.k s3 rfl) rfl) Try.isAgg40 Try.sizeOf40 rfl h_q4 ?_)
  intro a18 p18
  refine q_v p18.s rfl rfl rfl (g_build (cells := #[.int .i64 b.taken, .int .i64 ok, .int .i64 ot, .int .i64 oa, .int .i64 ob]) rfl (arrB2 (p18.k p17.v rfl) p18.v) (by kernel_rfl) ?_)
  intro a19 p19
  refine q_v p19.s rfl rfl rfl ?_
  refine g_alloc rfl Try.zeroValue45 rfl ?_
  intro q29 w30 N_q29
  have n_q2_q29 := N_q29.ne ⟨lt_of_block h_q2⟩
  have n_q29_q2 := n_q2_q29.symm
  have n_q4_q29 := N_q29.ne ⟨lt_of_block h_q4⟩
  have n_q29_q4 := n_q4_q29.symm
  have n_q6_q29 := N_q29.ne ⟨lt_of_block h_q6⟩
  have n_q29_q6 := n_q6_q29.symm
  have n_q25_q29 := N_q29.ne ⟨lt_of_block h_q25⟩
  have n_q29_q25 := n_q25_q29.symm
  have d_p23_q29 := own_ne_new o_p23 N_q29
  have d_l23_q29 := own_ne_new o_l23 N_q29
  have d_o23_q29 := own_ne_new o_o23 N_q29
  have d_d23_q29 := own_ne_new o_d23 N_q29
  have d_r23_q29 := own_ne_new o_r23 N_q29
  have d_x23_q29 := own_ne_new o_x23 N_q29
  have d_q23_q29 := own_ne_new o_q23 N_q29
  have g_q29 : GeB w.heap.size q29 := ⟨Nat.le_trans hB.size N_q29.lo⟩
  replace h_q2 := keep_below h_q2 N_q29.below
  replace h_q4 := keep_below h_q4 N_q29.below
  replace h_q6 := keep_below h_q6 N_q29.below
  replace h_q25 := keep_below h_q25 N_q29.below
  replace o_p23 := own_below o_p23 N_q29.below
  replace o_l23 := own_below o_l23 N_q29.below
  replace o_o23 := own_below o_o23 N_q29.below
  replace o_d23 := own_below o_d23 N_q29.below
  replace o_r23 := own_below o_r23 N_q29.below
  replace o_x23 := own_below o_x23 N_q29.below
  replace o_q23 := own_below o_q23 N_q29.below
  replace hB := below_new hB hB.size N_q29
  have h_q29 := N_q29.here
  clear N_q29
  intro a20 p20
  refine q_eff rfl rfl ?_
  refine g_storeB rfl p20.v (p20.k p19.v rfl) Try.sizeOf45 rfl rfl h_q29 rfl ?_
  intro w31 W_w31
  replace h_q2 := keep_wrote h_q2 W_w31 n_q29_q2
  replace h_q4 := keep_wrote h_q4 W_w31 n_q29_q4
  replace h_q6 := keep_wrote h_q6 W_w31 n_q29_q6
  replace h_q25 := keep_wrote h_q25 W_w31 n_q29_q25
  replace h_q29 := W_w31.here
  replace o_p23 := own_wrote o_p23 W_w31 d_p23_q29
  replace o_l23 := own_wrote o_l23 W_w31 d_l23_q29
  replace o_o23 := own_wrote o_o23 W_w31 d_o23_q29
  replace o_d23 := own_wrote o_d23 W_w31 d_d23_q29
  replace o_r23 := own_wrote o_r23 W_w31 d_r23_q29
  replace o_x23 := own_wrote o_x23 W_w31 d_x23_q29
  replace o_q23 := own_wrote o_q23 W_w31 d_q23_q29
  replace hB := below_wrote hB hB.size W_w31 g_q29.le
  clear W_w31
  refine wpList_nil ?_
  have kc15 := (((((Kps.nil a15).u p16).u p17).u p18).u p19).u p20
  replace s2 := kc15.k s2 rfl
  replace s3 := kc15.k s3 rfl
  replace s4 := kc15.k s4 rfl
  replace s5 := kc15.k s5 rfl
  replace s6 := kc15.k s6 rfl
  replace s7 := p20.v
  clear kc15
  refine hK28 _ _ ?_
  clear hK28
  refine wp_seq_k fun K32 hK32 => ?_
  refine wp_region_lit ?_
  refine q_v p20.s rfl rfl rfl (g_field (r := 10) rfl s6 Try.underlying32 rfl (fun w => Try.sizeOf3 w) rfl rfl ?_)
  intro a21 p21
  refine q_v p21.s rfl rfl rfl (g_load rfl p21.v Try.isAgg3 (box_cell h_q25 rfl) ?_)
  intro a22 p22
  refine q_v p22.s rfl rfl rfl (g_add (r := b.taken + 1) rfl p22.v rfl (by omega) (by omega) ?_)
  intro a23 p23
  refine q_v p23.s rfl rfl rfl (g_field (r := 10) rfl (p23.k (p22.k (p21.k s6 rfl) rfl) rfl) Try.underlying32 rfl (fun w => Try.sizeOf3 w) rfl rfl ?_)
  intro a24 p24
  refine q_eff rfl rfl ?_
  refine g_store (cs' := #[.int .i64 b.clk, .slice pA23 b.ps.length pc23, .bool b.safe, .slice lA23 b.ls.length lc23, .slice oA23 b.os.length oc23, .slice dA23 b.ds.length dc23, .int .i64 b.room, .slice rA23 b.rs.length rc23, .slice xA23 b.xs.length xc23, .int .i64 b.made, .int .i64 (b.taken + 1), .slice qA23 b.qs.length qc23]) rfl p24.v (p24.k p23.v rfl) Try.sizeOf3 rfl h_q25 (Nat.le_of_ble_eq_true rfl) rfl ?_
  intro w33 W_w33
  replace h_q2 := keep_wrote h_q2 W_w33 n_q25_q2
  replace h_q4 := keep_wrote h_q4 W_w33 n_q25_q4
  replace h_q6 := keep_wrote h_q6 W_w33 n_q25_q6
  replace h_q25 := W_w33.here
  replace h_q29 := keep_wrote h_q29 W_w33 n_q25_q29
  replace o_p23 := own_wrote o_p23 W_w33 d_p23_q25
  replace o_l23 := own_wrote o_l23 W_w33 d_l23_q25
  replace o_o23 := own_wrote o_o23 W_w33 d_o23_q25
  replace o_d23 := own_wrote o_d23 W_w33 d_d23_q25
  replace o_r23 := own_wrote o_r23 W_w33 d_r23_q25
  replace o_x23 := own_wrote o_x23 W_w33 d_x23_q25
  replace o_q23 := own_wrote o_q23 W_w33 d_q23_q25
  replace hB := below_wrote hB hB.size W_w33 g_q25.le
  clear W_w33
  refine wpList_nil ?_
  have kc20 := ((((Kps.nil a20).u p21).u p22).u p23).u p24
  replace s2 := kc20.k s2 rfl
  replace s3 := kc20.k s3 rfl
  replace s4 := kc20.k s4 rfl
  replace s5 := kc20.k s5 rfl
  replace s6 := kc20.k s6 rfl
  replace s7 := kc20.k s7 rfl
  clear kc20
  refine hK32 _ _ ?_
  clear hK32
  refine wp_seq_k fun K34 hK34 => ?_
  refine wp_region_lit ?_
  refine q_v p24.s rfl rfl rfl (g_field (r := 4) rfl s6 Try.underlying32 rfl (fun w => Try.sizeOf26 w) rfl rfl ?_)
  intro a25 p25
  refine q_v p25.s rfl rfl rfl (g_load rfl p25.v Try.isAgg26 (box_cell h_q25 rfl) ?_)
  intro a26 p26
  refine q_v p26.s rfl rfl rfl (g_len (e := _) rfl Try.underlying26 p26.v ?_)
  intro a27 p27
  refine q_v p27.s rfl rfl rfl (g_lss rfl p27.v rfl ?_)
  intro a28 p28
  refine q_v p28.s rfl rfl rfl (g_assign rfl p28.v ?_)
  intro a29 p29
  refine wpList_nil ?_
  have kc24 := (((((Kps.nil a24).u p25).u p26).u p27).u p28).u p29
  replace s2 := kc24.k s2 rfl
  replace s3 := kc24.k s3 rfl
  replace s4 := kc24.k s4 rfl
  replace s5 := kc24.k s5 rfl
  replace s6 := kc24.k s6 rfl
  replace s7 := kc24.k s7 rfl
  replace s8 := p29.v
  clear kc24
  refine hK34 _ _ ?_
  clear hK34
  refine wp_seq_k fun K35 hK35 => ?_
  refine wp_seq_k fun K36 hK36 => ?_
  refine wp_region_lit ?_
  refine q_v p29.s rfl rfl rfl (g_move rfl s8 ?_)
  intro a30 p30
  refine wpList_nil ?_
  replace s2 := p30.k s2 rfl
  replace s3 := p30.k s3 rfl
  replace s4 := p30.k s4 rfl
  replace s5 := p30.k s5 rfl
  replace s6 := p30.k s6 rfl
  replace s7 := p30.k s7 rfl
  replace s8 := p30.k s8 rfl
  replace s34 := p30.v
  refine hK36 _ _ ?_
  clear hK36
  by_cases hroom : ((b.os.length : Nat) : Int) < 40
  · replace s8 : a30.eval (.tmp 8) = .bool true := (s8).trans (congrArg Value.bool (decide_eq_true hroom))
    replace s34 : a30.eval (.tmp 34) = .bool true := (s34).trans (congrArg Value.bool (decide_eq_true hroom))
    refine c_true s34 ?_
    refine wp_seq_k fun K37 hK37 => ?_
    refine wp_region_lit ?_
    refine q_v p30.s rfl rfl rfl (g_field (r := 4) rfl s6 Try.underlying32 rfl (fun w => Try.sizeOf26 w) rfl rfl ?_)
    intro a31 p31
    refine q_v p31.s rfl rfl rfl (g_load rfl p31.v Try.isAgg26 (box_cell h_q25 rfl) ?_)
    intro a32 p32
    refine q_v p32.s rfl rfl rfl (g_len (e := _) rfl Try.underlying26 p32.v ?_)
    intro a33 p33
    refine q_v p33.s rfl rfl rfl (g_assign rfl p33.v ?_)
    intro a34 p34
    refine wpList_nil ?_
    have kc30 := ((((Kps.nil a30).u p31).u p32).u p33).u p34
    replace s2 := kc30.k s2 rfl
    replace s3 := kc30.k s3 rfl
    replace s4 := kc30.k s4 rfl
    replace s5 := kc30.k s5 rfl
    replace s6 := kc30.k s6 rfl
    replace s7 := kc30.k s7 rfl
    replace s8 := kc30.k s8 rfl
    replace s9 := p34.v
    clear kc30
    refine hK37 _ _ ?_
    clear hK37
    refine wp_seq_k fun K38 hK38 => ?_
    refine wp_block ?_
    refine wp_loop (fun a wr => ∃ (k : Nat), (St 79 a) ∧ (a.eval (.tmp 2) = .pointer (some ⟨q2, 0, none⟩)) ∧ (a.eval (.tmp 3) = .pointer (some ⟨q4, 0, none⟩)) ∧ (a.eval (.tmp 4) = .pointer (some ⟨q6, 0, none⟩)) ∧ (a.eval (.tmp 5) = .bool false) ∧ (a.eval (.tmp 6) = .pointer (some ⟨q25, 0, none⟩)) ∧ (a.eval (.tmp 7) = .pointer (some ⟨q29, 0, none⟩)) ∧ (a.eval (.tmp 8) = .bool true) ∧ (a.eval (.tmp 9) = .int .i64 ((k : Nat) : Int)) ∧ (Below w.heap.size w wr) ∧ (wr.heap[q2]? = some (.cells #[.int .i64 b.clk, .slice pA b.ps.length pc, .bool b.safe, .slice lA b.ls.length lc, .slice oA b.os.length oc, .slice dA b.ds.length dc, .int .i64 b.room, .slice rA b.rs.length rc, .slice xA b.xs.length xc, .int .i64 b.made, .int .i64 b.taken, .slice qA b.qs.length qc] 32 (0, 0))) ∧ (wr.heap[q4]? = some (.cells #[.int .i64 ok, .int .i64 ot, .int .i64 oa, .int .i64 ob] 40 (0, 0))) ∧ (wr.heap[q6]? = some (.cells #[.int .i64 0, .slice none 0 0, .bool false, .slice none 0 0, .slice none 0 0, .slice none 0 0, .int .i64 0, .slice none 0 0, .slice none 0 0, .int .i64 0, .int .i64 0, .slice none 0 0] 32 (0, 0))) ∧ (wr.heap[q25]? = some (.cells #[.int .i64 b.clk, .slice pA23 b.ps.length pc23, .bool b.safe, .slice lA23 b.ls.length lc23, .slice oA23 b.os.length oc23, .slice dA23 b.ds.length dc23, .int .i64 b.room, .slice rA23 b.rs.length rc23, .slice xA23 b.xs.length xc23, .int .i64 b.made, .int .i64 (b.taken + 1), .slice qA23 b.qs.length qc23] 32 (0, 0))) ∧ (wr.heap[q29]? = some (.cells #[.int .i64 b.taken, .int .i64 ok, .int .i64 ot, .int .i64 oa, .int .i64 ob] 45 (0, 0))) ∧ (wr.ownsRow w.heap.size 3 1 (.slice pA23 b.ps.length pc23) b.ps.length (b.ps.flatMap cI)) ∧ (wr.ownsRow w.heap.size 36 3 (.slice lA23 b.ls.length lc23) b.ls.length (b.ls.flatMap cLimit)) ∧ (wr.ownsRow w.heap.size 45 5 (.slice oA23 b.os.length oc23) b.os.length (b.os.flatMap cWaiting)) ∧ (wr.ownsRow w.heap.size 51 3 (.slice dA23 b.ds.length dc23) b.ds.length (b.ds.flatMap cDone)) ∧ (wr.ownsRow w.heap.size 47 4 (.slice rA23 b.rs.length rc23) b.rs.length (b.rs.flatMap cRecord)) ∧ (wr.ownsRow w.heap.size 3 1 (.slice xA23 b.xs.length xc23) b.xs.length (b.xs.flatMap cI)) ∧ (wr.ownsRow w.heap.size 3 1 (.slice qA23 b.qs.length qc23) b.qs.length (b.qs.flatMap cI)) ∧ (k ≤ b.os.length) ∧ (accN b.os ot k = accPos b.os ot)) (fun a _ => (intOf (a.eval (.tmp 9))).toNat) (⟨b.os.length, p34.s, s2, s3, s4, s5, s6, s7, s8, s9, hB, h_q2, h_q4, h_q6, h_q25, h_q29, o_p23, o_l23, o_o23, o_d23, o_r23, o_x23, o_q23, Nat.le_refl _, rfl⟩) ?_
    intro a35 w40 hIv
    obtain ⟨k, hs, s2, s3, s4, s5, s6, s7, s8, s9, hB, h_q2, h_q4, h_q6, h_q25, h_q29, o_p23, o_l23, o_o23, o_d23, o_r23, o_x23, o_q23, hk, hp⟩ := hIv
    have mu41 := s9
    refine wp_seq_k fun K42 hK42 => ?_
    refine wp_seq_k fun K43 hK43 => ?_
    by_cases hk0 : 0 < ((k : Nat) : Int)
    · have hk1 : k - 1 < b.os.length := by omega
      obtain ⟨b44, o45, hA46, hl_hc47, hc47⟩ := Rd.get cWaiting_len (Rd.of_own o_o23) rfl (i := k - 1) (by omega)
      refine wp_drawn (n := 79) [] [] [] (fun k_ v_ _wx => match k_ with | 0 => v_ = .int .i64 ((k : Nat) : Int) | 1 => v_ = .bool true | 2 => v_ = .bool true | 3 => v_ = .pointer (some ⟨q25, 4, none⟩) | 4 => v_ = .slice oA23 b.os.length oc23 | 5 => v_ = .int .i64 ((k : Nat) : Int) | 6 => v_ = .int .i64 ((k - 1 : Nat) : Int) | 7 => v_ = .pointer (some ⟨b44, o45 + (k - 1) * 5, none⟩) | 8 => v_ = .pointer (some ⟨b44, o45 + (k - 1) * 5 + 1, none⟩) | 9 => v_ = .pointer (some ⟨b44, o45 + (k - 1) * 5 + 2, none⟩) | 10 => v_ = .int .i64 (b.os[k - 1].f2) | 11 => v_ = .pointer (some ⟨q4, 1, none⟩) | 12 => v_ = .int .i64 ot | 13 => v_ = .bool (decide (ot < b.os[k - 1].f2)) | 14 => v_ = .bool (decide (ot < b.os[k - 1].f2)) | _ => True) (by kernel_rfl) (by kernel_rfl) (by kernel_rfl) (by kernel_rfl) hs.size ?_ ?_ ?_
      · intro i v wa wb hb hr
        rcases i with _ | _ | _ | _ | _ | _ | _ | _ | _ | _ | _ | _ | _ | _ | _ | i
        · exact hr
        · exact hr
        · exact hr
        · exact hr
        · exact hr
        · exact hr
        · exact hr
        · exact hr
        · exact hr
        · exact hr
        · exact hr
        · exact hr
        · exact hr
        · exact hr
        · exact hr
        · trivial
      · refine d_step rfl rfl ?_ (d_step rfl rfl ?_ (d_step rfl rfl ?_ (d_take rfl 2 true 40 rfl rfl rfl (fun v w h => h) ?_ (d_take rfl 2 true 40 rfl rfl rfl (fun v w h => h) ?_ (d_take rfl 2 true 40 rfl rfl rfl (fun v w h => h) ?_ (d_take rfl 2 true 40 rfl rfl rfl (fun v w h => h) ?_ (d_take rfl 2 true 40 rfl rfl rfl (fun v w h => h) ?_ (d_take rfl 2 true 40 rfl rfl rfl (fun v w h => h) ?_ (d_take rfl 2 true 40 rfl rfl rfl (fun v w h => h) ?_ (d_take rfl 2 true 40 rfl rfl rfl (fun v w h => h) ?_ (d_take rfl 2 true 40 rfl rfl rfl (fun v w h => h) ?_ (d_take rfl 2 true 40 rfl rfl rfl (fun v w h => h) ?_ (d_take rfl 2 true 40 rfl rfl rfl (fun v w h => h) ?_ (d_step rfl rfl ?_ (d_nil)))))))))))))))
        · intro xv_ wx ρ hρ hwx hd K hK
          have e9 : ρ (.tmp 9) = .int .i64 ((k : Nat) : Int) := (hρ.inn 9 rfl).trans s9
          refine g_move rfl e9 ?_
          exact hK _ _ (Below.refl _ _) rfl
        · intro xv_ wx ρ hρ hwx hd K hK
          obtain r0 : xv_ 0 = .int .i64 ((k : Nat) : Int) := hd 0 rfl
          have e38 : ρ (.tmp 38) = .int .i64 ((k : Nat) : Int) := (hρ.out 0 38 rfl (by rw [hs.size]; decide) rfl).trans r0
          refine g_gtr rfl e38 ((hρ.cst _)) ?_
          exact hK _ _ (Below.refl _ _) (congrArg Value.bool (decide_eq_true hk0))
        · intro xv_ wx ρ hρ hwx hd K hK
          obtain r1 : xv_ 1 = .bool true := hd 1 rfl
          have e39 : ρ (.tmp 39) = .bool true := (hρ.out 1 39 rfl (by rw [hs.size]; decide) rfl).trans r1
          refine g_move rfl e39 ?_
          exact hK _ _ (Below.refl _ _) rfl
        · intro xv_ wx ρ hρ hwx hd K hK
          have e6 : ρ (.tmp 6) = .pointer (some ⟨q25, 0, none⟩) := (hρ.inn 6 rfl).trans s6
          refine g_field (r := 4) rfl e6 Try.underlying32 rfl (fun w => Try.sizeOf26 w) rfl rfl ?_
          exact hK _ _ (Below.refl _ _) rfl
        · intro xv_ wx ρ hρ hwx hd K hK
          obtain r3 : xv_ 3 = .pointer (some ⟨q25, 4, none⟩) := hd 3 rfl
          have e41 : ρ (.tmp 41) = .pointer (some ⟨q25, 4, none⟩) := (hρ.out 3 41 rfl (by rw [hs.size]; decide) rfl).trans r3
          have h_q25 := keep_below h_q25 hwx
          refine g_load rfl e41 Try.isAgg26 (box_cell h_q25 rfl) ?_
          exact hK _ _ (Below.refl _ _) rfl
        · intro xv_ wx ρ hρ hwx hd K hK
          have e9 : ρ (.tmp 9) = .int .i64 ((k : Nat) : Int) := (hρ.inn 9 rfl).trans s9
          refine g_move rfl e9 ?_
          exact hK _ _ (Below.refl _ _) rfl
        · intro xv_ wx ρ hρ hwx hd K hK
          obtain r5 : xv_ 5 = .int .i64 ((k : Nat) : Int) := hd 5 rfl
          have e43 : ρ (.tmp 43) = .int .i64 ((k : Nat) : Int) := (hρ.out 5 43 rfl (by rw [hs.size]; decide) rfl).trans r5
          refine g_sub (r := ((k - 1 : Nat) : Int)) rfl e43 ((hρ.cst _)) (by omega) (by omega) ?_
          exact hK _ _ (Below.refl _ _) rfl
        · intro xv_ wx ρ hρ hwx hd K hK
          obtain r4 : xv_ 4 = .slice oA23 b.os.length oc23 := hd 4 rfl
          have e42 : ρ (.tmp 42) = .slice oA23 b.os.length oc23 := (hρ.out 4 42 rfl (by rw [hs.size]; decide) rfl).trans r4
          obtain r6 : xv_ 6 = .int .i64 ((k - 1 : Nat) : Int) := hd 6 rfl
          have e44 : ρ (.tmp 44) = .int .i64 ((k - 1 : Nat) : Int) := (hρ.out 6 44 rfl (by rw [hs.size]; decide) rfl).trans r6
          refine g_index (r := o45 + (k - 1) * 5) (k := k - 1) rfl (e42.trans (slice_at hA46)) e44 Try.underlying26 (fun w => Try.sizeOf45 w) (by omega) rfl ?_
          exact hK _ _ (Below.refl _ _) rfl
        · intro xv_ wx ρ hρ hwx hd K hK
          obtain r7 : xv_ 7 = .pointer (some ⟨b44, o45 + (k - 1) * 5, none⟩) := hd 7 rfl
          have e45 : ρ (.tmp 45) = .pointer (some ⟨b44, o45 + (k - 1) * 5, none⟩) := (hρ.out 7 45 rfl (by rw [hs.size]; decide) rfl).trans r7
          refine g_field (r := o45 + (k - 1) * 5 + 1) rfl e45 Try.underlying45 rfl (fun w => Try.sizeOf40 w) rfl rfl ?_
          exact hK _ _ (Below.refl _ _) rfl
        · intro xv_ wx ρ hρ hwx hd K hK
          obtain r8 : xv_ 8 = .pointer (some ⟨b44, o45 + (k - 1) * 5 + 1, none⟩) := hd 8 rfl
          have e46 : ρ (.tmp 46) = .pointer (some ⟨b44, o45 + (k - 1) * 5 + 1, none⟩) := (hρ.out 8 46 rfl (by rw [hs.size]; decide) rfl).trans r8
          refine g_field (r := o45 + (k - 1) * 5 + 2) rfl e46 Try.underlying40 rfl (fun w => Try.sizeOf3 w) rfl rfl ?_
          exact hK _ _ (Below.refl _ _) rfl
        · intro xv_ wx ρ hρ hwx hd K hK
          obtain r9 : xv_ 9 = .pointer (some ⟨b44, o45 + (k - 1) * 5 + 2, none⟩) := hd 9 rfl
          have e47 : ρ (.tmp 47) = .pointer (some ⟨b44, o45 + (k - 1) * 5 + 2, none⟩) := (hρ.out 9 47 rfl (by rw [hs.size]; decide) rfl).trans r9
          have hc47 := elem_below hc47 hwx hl_hc47
          refine g_load rfl e47 Try.isAgg3 (by first | exact hc47 2 _ (by decide) rfl | (rw [Nat.add_assoc]; exact hc47 2 _ (by decide) rfl)) ?_
          exact hK _ _ (Below.refl _ _) rfl
        · intro xv_ wx ρ hρ hwx hd K hK
          have e3 : ρ (.tmp 3) = .pointer (some ⟨q4, 0, none⟩) := (hρ.inn 3 rfl).trans s3
          refine g_field (r := 1) rfl e3 Try.underlying40 rfl (fun w => Try.sizeOf3 w) rfl rfl ?_
          exact hK _ _ (Below.refl _ _) rfl
        · intro xv_ wx ρ hρ hwx hd K hK
          obtain r11 : xv_ 11 = .pointer (some ⟨q4, 1, none⟩) := hd 11 rfl
          have e49 : ρ (.tmp 49) = .pointer (some ⟨q4, 1, none⟩) := (hρ.out 11 49 rfl (by rw [hs.size]; decide) rfl).trans r11
          have h_q4 := keep_below h_q4 hwx
          refine g_load rfl e49 Try.isAgg3 (box_cell h_q4 rfl) ?_
          exact hK _ _ (Below.refl _ _) rfl
        · intro xv_ wx ρ hρ hwx hd K hK
          obtain r10 : xv_ 10 = .int .i64 (b.os[k - 1].f2) := hd 10 rfl
          have e48 : ρ (.tmp 48) = .int .i64 (b.os[k - 1].f2) := (hρ.out 10 48 rfl (by rw [hs.size]; decide) rfl).trans r10
          obtain r12 : xv_ 12 = .int .i64 ot := hd 12 rfl
          have e50 : ρ (.tmp 50) = .int .i64 ot := (hρ.out 12 50 rfl (by rw [hs.size]; decide) rfl).trans r12
          refine g_gtr rfl e48 e50 ?_
          exact hK _ _ (Below.refl _ _) rfl
        · intro xv_ wx ρ hρ hwx hd K hK
          obtain r2 : xv_ 2 = .bool true := hd 2 rfl
          have e40 : ρ (.tmp 40) = .bool true := (hρ.out 2 40 rfl (by rw [hs.size]; decide) rfl).trans r2
          obtain r13 : xv_ 13 = .bool (decide (ot < b.os[k - 1].f2)) := hd 13 rfl
          have e51 : ρ (.tmp 51) = .bool (decide (ot < b.os[k - 1].f2)) := (hρ.out 13 51 rfl (by rw [hs.size]; decide) rfl).trans r13
          refine g_pick_t rfl e40 e51 ?_
          exact hK _ _ (Below.refl _ _) rfl
      · intro x0_ w48 hb_w48 hr0
        obtain r0 : x0_ 0 = .int .i64 ((k : Nat) : Int) := hr0 0 (by decide) rfl rfl
        obtain r1 : x0_ 1 = .bool true := hr0 1 (by decide) rfl rfl
        obtain r2 : x0_ 2 = .bool true := hr0 2 (by decide) rfl rfl
        obtain r3 : x0_ 3 = .pointer (some ⟨q25, 4, none⟩) := hr0 3 (by decide) rfl rfl
        obtain r4 : x0_ 4 = .slice oA23 b.os.length oc23 := hr0 4 (by decide) rfl rfl
        obtain r5 : x0_ 5 = .int .i64 ((k : Nat) : Int) := hr0 5 (by decide) rfl rfl
        obtain r6 : x0_ 6 = .int .i64 ((k - 1 : Nat) : Int) := hr0 6 (by decide) rfl rfl
        obtain r7 : x0_ 7 = .pointer (some ⟨b44, o45 + (k - 1) * 5, none⟩) := hr0 7 (by decide) rfl rfl
        obtain r8 : x0_ 8 = .pointer (some ⟨b44, o45 + (k - 1) * 5 + 1, none⟩) := hr0 8 (by decide) rfl rfl
        obtain r9 : x0_ 9 = .pointer (some ⟨b44, o45 + (k - 1) * 5 + 2, none⟩) := hr0 9 (by decide) rfl rfl
        obtain r10 : x0_ 10 = .int .i64 (b.os[k - 1].f2) := hr0 10 (by decide) rfl rfl
        obtain r11 : x0_ 11 = .pointer (some ⟨q4, 1, none⟩) := hr0 11 (by decide) rfl rfl
        obtain r12 : x0_ 12 = .int .i64 ot := hr0 12 (by decide) rfl rfl
        obtain r13 : x0_ 13 = .bool (decide (ot < b.os[k - 1].f2)) := hr0 13 (by decide) rfl rfl
        obtain r14 : x0_ 14 = .bool (decide (ot < b.os[k - 1].f2)) := hr0 14 (by decide) rfl rfl
        clear hr0
        replace h_q2 := keep_below h_q2 hb_w48
        replace h_q4 := keep_below h_q4 hb_w48
        replace h_q6 := keep_below h_q6 hb_w48
        replace h_q25 := keep_below h_q25 hb_w48
        replace h_q29 := keep_below h_q29 hb_w48
        replace o_p23 := own_below o_p23 hb_w48
        replace o_l23 := own_below o_l23 hb_w48
        replace o_o23 := own_below o_o23 hb_w48
        replace o_d23 := own_below o_d23 hb_w48
        replace o_r23 := own_below o_r23 hb_w48
        replace o_x23 := own_below o_x23 hb_w48
        replace o_q23 := own_below o_q23 hb_w48
        replace hB := hB.trans (hb_w48.mono hB.size)
        clear hb_w48
        intro xv_ a36 hρ hsz hdf qx_ ql_ qk_ qlk_
        replace s2 : a36.eval (.tmp 2) = .pointer (some ⟨q2, 0, none⟩) := (hρ.inn 2 rfl).trans s2
        replace s3 : a36.eval (.tmp 3) = .pointer (some ⟨q4, 0, none⟩) := (hρ.inn 3 rfl).trans s3
        replace s4 : a36.eval (.tmp 4) = .pointer (some ⟨q6, 0, none⟩) := (hρ.inn 4 rfl).trans s4
        replace s5 : a36.eval (.tmp 5) = .bool false := (hρ.inn 5 rfl).trans s5
        replace s6 : a36.eval (.tmp 6) = .pointer (some ⟨q25, 0, none⟩) := (hρ.inn 6 rfl).trans s6
        replace s7 : a36.eval (.tmp 7) = .pointer (some ⟨q29, 0, none⟩) := (hρ.inn 7 rfl).trans s7
        replace s8 : a36.eval (.tmp 8) = .bool true := (hρ.inn 8 rfl).trans s8
        replace s9 : a36.eval (.tmp 9) = .int .i64 ((k : Nat) : Int) := (hρ.inn 9 rfl).trans s9
        have s52 : a36.eval (.tmp 52) = .bool (decide (ot < b.os[k - 1].f2)) := (hρ.out 14 52 rfl (by rw [hs.size]; decide)).trans ((qx_ 14 (by decide) rfl rfl).trans r14)
        replace hs : St 79 a36 := ⟨hsz.trans hs.size, hdf.trans hs.nodef⟩
        clear hρ hsz hdf qx_ ql_ qk_ qlk_
        refine hK43 _ _ ?_
        clear hK43
        by_cases hlt2 : ot < b.os[k - 1].f2
        · replace s52 : a36.eval (.tmp 52) = .bool true := (s52).trans (congrArg Value.bool (decide_eq_true hlt2))
          refine c_true s52 ?_
          refine wp_skip ?_
          refine hK42 _ _ ?_
          clear hK42
          refine wp_block ?_
          refine wp_region_lit ?_
          refine q_v hs rfl rfl rfl (g_move rfl s9 ?_)
          intro a37 p37
          refine q_v p37.s rfl rfl rfl (g_sub (r := ((k - 1 : Nat) : Int)) rfl p37.v rfl (by omega) (by omega) ?_)
          intro a38 p38
          refine q_v p38.s rfl rfl rfl (g_assign rfl p38.v ?_)
          intro a39 p39
          refine wpList_nil ?_
          have kc36 := (((Kps.nil a36).u p37).u p38).u p39
          replace s2 := kc36.k s2 rfl
          replace s3 := kc36.k s3 rfl
          replace s4 := kc36.k s4 rfl
          replace s5 := kc36.k s5 rfl
          replace s6 := kc36.k s6 rfl
          replace s7 := kc36.k s7 rfl
          replace s8 := kc36.k s8 rfl
          replace s9 := p39.v
          replace s52 := kc36.k s52 rfl
          clear kc36
          refine show _ ∧ _ from ⟨⟨k - 1, p39.s, s2, s3, s4, s5, s6, s7, s8, s9, hB, h_q2, h_q4, h_q6, h_q25, h_q29, o_p23, o_l23, o_o23, o_d23, o_r23, o_x23, o_q23, (by omega), (accN_go (by omega) hk1 hlt2 hp)⟩, ?_⟩
          show (intOf (a39.eval (.tmp 9))).toNat < (intOf (a35.eval (.tmp 9))).toNat
          rw [s9, mu41]
          simp only [intOf]
          omega
        replace s52 : a36.eval (.tmp 52) = .bool false := (s52).trans (congrArg Value.bool (decide_eq_false hlt2))
        refine c_false s52 ?_
        refine wp_exit ?_
        refine hK38 _ _ ?_
        clear hK38
        have hkp : k = accPos b.os ot := accN_stop (.inr ⟨hk1, hlt2⟩) hp
        have hkl : k ≤ b.os.length := hk
        refine wp_region_lit ?_
        refine q_v hs rfl rfl rfl (g_field (r := 4) rfl s6 Try.underlying32 rfl (fun w => Try.sizeOf26 w) rfl rfl ?_)
        intro a37 p37
        refine q_v p37.s rfl rfl rfl (g_load rfl p37.v Try.isAgg26 (box_cell h_q25 rfl) ?_)
        intro a38 p38
        refine q_v p38.s rfl rfl rfl (g_move rfl (p38.k (p37.k s9 rfl) rfl) ?_)
        intro a39 p39
        refine q_v p39.s rfl rfl rfl (g_loadB rfl (p39.k (p38.k (p37.k s7 rfl) rfl) rfl) Try.isAgg45 Try.sizeOf45 rfl h_q29 ?_)
        intro a40 p40
        refine q_v p40.s rfl rfl rfl ?_
        refine g_bslice1 (cs := #[.int .i64 b.taken, .int .i64 ok, .int .i64 ot, .int .i64 oa, .int .i64 ob]) rfl Try.underlying26 Try.sizeOf45 Try.zeroValue45 p40.v (by kernel_rfl) rfl (by decide) ?_
        intro q49 w50 N_q49
        have d_o23_q49 := own_ne_new o_o23 N_q49
        replace h_q2 := keep_below h_q2 N_q49.below
        replace h_q6 := keep_below h_q6 N_q49.below
        replace h_q25 := keep_below h_q25 N_q49.below
        replace h_q29 := keep_below h_q29 N_q49.below
        replace o_p23 := own_below o_p23 N_q49.below
        replace o_l23 := own_below o_l23 N_q49.below
        replace o_o23 := own_below o_o23 N_q49.below
        replace o_d23 := own_below o_d23 N_q49.below
        replace o_r23 := own_below o_r23 N_q49.below
        replace o_x23 := own_below o_x23 N_q49.below
        replace o_q23 := own_below o_q23 N_q49.below
        replace hB := below_new hB hB.size N_q49
        have h_q49 := N_q49.here
        clear N_q49
        intro a41 p41
        refine q_v p41.s rfl rfl rfl ?_
        refine g_call rfl rfl Try.call42 (arr3 (p41.k (p40.k (p39.k p38.v rfl) rfl) rfl) (p41.k (p40.k p39.v rfl) rfl) p41.v) ?_
        refine (insertWaiting_at (x := ⟨b.taken, ok, ot, oa, ob⟩) _ rfl (by omega) (by omega) h_q49 d_o23_q49 hB.size o_o23).mono ?_
        rintro e w52 ⟨A_r51, c_r51, rfl, P_r51⟩
        refine ⟨_, rfl, ?_⟩
        have d_r51_q6 := P_r51.ne d_o23_q6 (lt_of_block h_q6)
        have d_r51_q25 := P_r51.ne d_o23_q25 (lt_of_block h_q25)
        replace h_q2 := keep_grown h_q2 P_r51.grown d_o23_q2
        replace h_q6 := keep_grown h_q6 P_r51.grown d_o23_q6
        replace h_q25 := keep_grown h_q25 P_r51.grown d_o23_q25
        replace h_q29 := keep_grown h_q29 P_r51.grown d_o23_q29
        replace o_p23 := own_grown o_p23 P_r51.grown m_p23_o23
        replace o_l23 := own_grown o_l23 P_r51.grown m_l23_o23
        replace o_d23 := own_grown o_d23 P_r51.grown m_d23_o23
        replace o_r23 := own_grown o_r23 P_r51.grown m_r23_o23
        replace o_x23 := own_grown o_x23 P_r51.grown m_x23_o23
        replace o_q23 := own_grown o_q23 P_r51.grown m_q23_o23
        replace hB := below_grown hB hB.size P_r51.grown g_o23
        have o_r51 := P_r51.own
        clear P_r51
        intro a42 p42
        refine q_v p42.s rfl rfl rfl (g_field (r := 4) rfl (p42.k (p41.k (p40.k (p39.k (p38.k (p37.k s6 rfl) rfl) rfl) rfl) rfl) rfl) Try.underlying32 rfl (fun w => Try.sizeOf26 w) rfl rfl ?_)
        intro a43 p43
        refine q_eff rfl rfl ?_
        refine g_store (cs' := #[.int .i64 b.clk, .slice pA23 b.ps.length pc23, .bool b.safe, .slice lA23 b.ls.length lc23, .slice A_r51 (b.os.length + 1) c_r51, .slice dA23 b.ds.length dc23, .int .i64 b.room, .slice rA23 b.rs.length rc23, .slice xA23 b.xs.length xc23, .int .i64 b.made, .int .i64 (b.taken + 1), .slice qA23 b.qs.length qc23]) rfl p43.v (p43.k p42.v rfl) Try.sizeOf26 rfl h_q25 (Nat.le_of_ble_eq_true rfl) rfl ?_
        intro w53 W_w53
        replace h_q2 := keep_wrote h_q2 W_w53 n_q25_q2
        replace h_q6 := keep_wrote h_q6 W_w53 n_q25_q6
        replace h_q25 := W_w53.here
        replace h_q29 := keep_wrote h_q29 W_w53 n_q25_q29
        replace o_p23 := own_wrote o_p23 W_w53 d_p23_q25
        replace o_l23 := own_wrote o_l23 W_w53 d_l23_q25
        replace o_d23 := own_wrote o_d23 W_w53 d_d23_q25
        replace o_r23 := own_wrote o_r23 W_w53 d_r23_q25
        replace o_x23 := own_wrote o_x23 W_w53 d_x23_q25
        replace o_q23 := own_wrote o_q23 W_w53 d_q23_q25
        replace o_r51 := own_wrote o_r51 W_w53 d_r51_q25
        replace hB := below_wrote hB hB.size W_w53 g_q25.le
        clear W_w53
        refine wpList_nil ?_
        have kc36 := (((((((Kps.nil a36).u p37).u p38).u p39).u p40).u p41).u p42).u p43
        replace s2 := kc36.k s2 rfl
        replace s4 := kc36.k s4 rfl
        replace s5 := kc36.k s5 rfl
        replace s6 := kc36.k s6 rfl
        replace s7 := kc36.k s7 rfl
        replace s8 := kc36.k s8 rfl
        clear kc36
        refine hK35 _ _ ?_
        clear hK35
        refine wp_seq_k fun K54 hK54 => ?_
        refine wp_seq_k fun K55 hK55 => ?_
        refine wp_region_lit ?_
        refine q_v p43.s rfl rfl rfl (g_loadB rfl s6 Try.isAgg32 Try.sizeOf32 rfl h_q25 ?_)
        intro a44 p44
        refine q_v p44.s rfl rfl rfl ?_
        refine g_call rfl rfl Try.call21 (arr1 p44.v) ?_
        refine (boardOk_any (S := (⟨⟨pA23, b.ps.length, pc23⟩, ⟨lA23, b.ls.length, lc23⟩, ⟨A_r51, (b.os.length + 1), c_r51⟩, ⟨dA23, b.ds.length, dc23⟩, ⟨rA23, b.rs.length, rc23⟩, ⟨xA23, b.xs.length, xc23⟩, ⟨qA23, b.qs.length, qc23⟩⟩ : BSl)) (b := (⟨b.clk, b.ps, b.safe, b.ls, insL b.os k ⟨b.taken, ok, ot, oa, ob⟩, b.ds, b.room, b.rs, b.xs, b.made, b.taken + 1, b.qs⟩ : EBoard)) _ ⟨⟨(Rd.of_own o_p23), rfl, (own_nil o_p23), (own_cap o_p23).1⟩, ⟨(Rd.of_own o_l23), rfl, (own_nil o_l23), (own_cap o_l23).1⟩, ⟨(Rd.of_own o_r51), ((insL_len ..).trans (by rw [show b.os.length = b.os.length from rfl])), (own_nil o_r51), (own_cap o_r51).1⟩, ⟨(Rd.of_own o_d23), rfl, (own_nil o_d23), (own_cap o_d23).1⟩, ⟨(Rd.of_own o_r23), rfl, (own_nil o_r23), (own_cap o_r23).1⟩, ⟨(Rd.of_own o_x23), rfl, (own_nil o_x23), (own_cap o_x23).1⟩, ⟨(Rd.of_own o_q23), rfl, (own_nil o_q23), (own_cap o_q23).1⟩⟩ ⟨leq_len (n := b.ps.length) rfl (by omega), leq_len (n := b.ls.length) rfl (by omega), leq_len (n := (b.os.length + 1)) ((insL_len ..).trans (by rw [show b.os.length = b.os.length from rfl])) (by omega), leq_len (n := b.ds.length) rfl (by omega), leq_len (n := b.rs.length) rfl (by omega), leq_len (n := b.xs.length) rfl (by omega), leq_len (n := b.qs.length) rfl (by omega), hW.tx⟩).mono ?_
        rintro e w57 ⟨rfl, hb56⟩
        refine ⟨_, rfl, ?_⟩
        replace h_q2 := keep_below h_q2 hb56
        replace h_q6 := keep_below h_q6 hb56
        replace h_q25 := keep_below h_q25 hb56
        replace h_q29 := keep_below h_q29 hb56
        replace o_p23 := own_below o_p23 hb56
        replace o_l23 := own_below o_l23 hb56
        replace o_d23 := own_below o_d23 hb56
        replace o_r23 := own_below o_r23 hb56
        replace o_x23 := own_below o_x23 hb56
        replace o_q23 := own_below o_q23 hb56
        replace o_r51 := own_below o_r51 hb56
        replace hB := hB.trans (hb56.mono hB.size)
        clear hb56
        intro a45 p45
        refine q_v p45.s rfl rfl rfl (g_not rfl p45.v ?_)
        intro a46 p46
        refine wpList_nil ?_
        have kc43 := (((Kps.nil a43).u p44).u p45).u p46
        replace s2 := kc43.k s2 rfl
        replace s4 := kc43.k s4 rfl
        replace s5 := kc43.k s5 rfl
        replace s6 := kc43.k s6 rfl
        replace s8 := kc43.k s8 rfl
        replace s74 := p46.v
        clear kc43
        refine hK55 _ _ ?_
        clear hK55
        cases hc58 : boOk (⟨b.clk, b.ps, b.safe, b.ls, insL b.os k ⟨b.taken, ok, ot, oa, ob⟩, b.ds, b.room, b.rs, b.xs, b.made, b.taken + 1, b.qs⟩ : EBoard)
        · replace s74 : a46.eval (.tmp 74) = .bool true := (s74).trans (congrArg (fun b => Value.bool (!b)) hc58)
          refine c_true s74 ?_
          refine wp_seq_k fun K59 hK59 => ?_
          refine wp_region_lit ?_
          refine q_v p46.s rfl rfl rfl (g_loadB rfl s2 Try.isAgg32 Try.sizeOf32 rfl h_q2 ?_)
          intro a47 p47
          refine q_v p47.s rfl rfl rfl ?_
          refine g_call rfl rfl Try.call41 (arr1 p47.v) ?_
          refine (cloneBoard_any (S := (⟨⟨pA, b.ps.length, pc⟩, ⟨lA, b.ls.length, lc⟩, ⟨oA, b.os.length, oc⟩, ⟨dA, b.ds.length, dc⟩, ⟨rA, b.rs.length, rc⟩, ⟨xA, b.xs.length, xc⟩, ⟨qA, b.qs.length, qc⟩⟩ : BSl)) (b := b) _ ⟨⟨(hr_p.below hB), rfl, hnn_p, hnc_p⟩, ⟨(hr_l.below hB), rfl, hnn_l, hnc_l⟩, ⟨(hr_o.below hB), rfl, hnn_o, hnc_o⟩, ⟨(hr_d.below hB), rfl, hnn_d, hnc_d⟩, ⟨(hr_r.below hB), rfl, hnn_r, hnc_r⟩, ⟨(hr_x.below hB), rfl, hnn_x, hnc_x⟩, ⟨(hr_q.below hB), rfl, hnn_q, hnc_q⟩⟩ hW).mono ?_
          rintro e w61 ⟨⟨⟨pA60, pn60, pc60⟩, ⟨lA60, ln60, lc60⟩, ⟨oA60, on60, oc60⟩, ⟨dA60, dn60, dc60⟩, ⟨rA60, rn60, rc60⟩, ⟨xA60, xn60, xc60⟩, ⟨qA60, qn60, qc60⟩⟩, rfl, ⟨o_p60, o_l60, o_o60, o_d60, o_r60, o_x60, o_q60, ma60, mb60, mc60⟩, hb60⟩
          refine ⟨_, rfl, ?_⟩
          have ep60 : b.ps.length = pn60 := own_lenI o_p60
          subst pn60
          have el60 : b.ls.length = ln60 := own_lenOf (by decide) cLimit_len o_l60
          subst ln60
          have eo60 : b.os.length = on60 := own_lenOf (by decide) cWaiting_len o_o60
          subst on60
          have ed60 : b.ds.length = dn60 := own_lenOf (by decide) cDone_len o_d60
          subst dn60
          have er60 : b.rs.length = rn60 := own_lenOf (by decide) cRecord_len o_r60
          subst rn60
          have ex60 : b.xs.length = xn60 := own_lenI o_x60
          subst xn60
          have eq60 : b.qs.length = qn60 := own_lenI o_q60
          subst qn60
          change w61.ownsRow w57.heap.size 3 1 (.slice pA60 b.ps.length pc60) b.ps.length (b.ps.flatMap cI) at o_p60
          change w61.ownsRow w57.heap.size 36 3 (.slice lA60 b.ls.length lc60) b.ls.length (b.ls.flatMap cLimit) at o_l60
          change w61.ownsRow w57.heap.size 45 5 (.slice oA60 b.os.length oc60) b.os.length (b.os.flatMap cWaiting) at o_o60
          change w61.ownsRow w57.heap.size 51 3 (.slice dA60 b.ds.length dc60) b.ds.length (b.ds.flatMap cDone) at o_d60
          change w61.ownsRow w57.heap.size 47 4 (.slice rA60 b.rs.length rc60) b.rs.length (b.rs.flatMap cRecord) at o_r60
          change w61.ownsRow w57.heap.size 3 1 (.slice xA60 b.xs.length xc60) b.xs.length (b.xs.flatMap cI) at o_x60
          change w61.ownsRow w57.heap.size 3 1 (.slice qA60 b.qs.length qc60) b.qs.length (b.qs.flatMap cI) at o_q60
          have m_p60_x60 := ma60
          have m_p60_q60 := mb60
          have m_x60_q60 := mc60
          have d_p60_q6 := own_ne_box o_p60 (lt_of_block h_q6)
          replace o_p60 := own_base (base := w.heap.size) o_p60 hB.size
          have d_l60_q6 := own_ne_box o_l60 (lt_of_block h_q6)
          replace o_l60 := own_base (base := w.heap.size) o_l60 hB.size
          have d_o60_q6 := own_ne_box o_o60 (lt_of_block h_q6)
          replace o_o60 := own_base (base := w.heap.size) o_o60 hB.size
          have d_d60_q6 := own_ne_box o_d60 (lt_of_block h_q6)
          replace o_d60 := own_base (base := w.heap.size) o_d60 hB.size
          have d_r60_q6 := own_ne_box o_r60 (lt_of_block h_q6)
          replace o_r60 := own_base (base := w.heap.size) o_r60 hB.size
          have d_x60_q6 := own_ne_box o_x60 (lt_of_block h_q6)
          replace o_x60 := own_base (base := w.heap.size) o_x60 hB.size
          have d_q60_q6 := own_ne_box o_q60 (lt_of_block h_q6)
          replace o_q60 := own_base (base := w.heap.size) o_q60 hB.size
          replace h_q2 := keep_below h_q2 hb60
          replace h_q6 := keep_below h_q6 hb60
          replace h_q25 := keep_below h_q25 hb60
          replace h_q29 := keep_below h_q29 hb60
          replace o_p23 := own_below o_p23 hb60
          replace o_l23 := own_below o_l23 hb60
          replace o_d23 := own_below o_d23 hb60
          replace o_r23 := own_below o_r23 hb60
          replace o_x23 := own_below o_x23 hb60
          replace o_q23 := own_below o_q23 hb60
          replace o_r51 := own_below o_r51 hb60
          replace hB := hB.trans (hb60.mono hB.size)
          clear hb60
          intro a48 p48
          refine q_eff rfl rfl ?_
          refine g_storeB rfl (p48.k (p47.k s4 rfl) rfl) p48.v Try.sizeOf32 rfl rfl h_q6 rfl ?_
          intro w62 W_w62
          replace h_q2 := keep_wrote h_q2 W_w62 n_q6_q2
          replace h_q6 := W_w62.here
          replace h_q25 := keep_wrote h_q25 W_w62 n_q6_q25
          replace h_q29 := keep_wrote h_q29 W_w62 n_q6_q29
          replace o_p23 := own_wrote o_p23 W_w62 d_p23_q6
          replace o_l23 := own_wrote o_l23 W_w62 d_l23_q6
          replace o_d23 := own_wrote o_d23 W_w62 d_d23_q6
          replace o_r23 := own_wrote o_r23 W_w62 d_r23_q6
          replace o_x23 := own_wrote o_x23 W_w62 d_x23_q6
          replace o_q23 := own_wrote o_q23 W_w62 d_q23_q6
          replace o_r51 := own_wrote o_r51 W_w62 d_r51_q6
          replace o_p60 := own_wrote o_p60 W_w62 d_p60_q6
          replace o_l60 := own_wrote o_l60 W_w62 d_l60_q6
          replace o_o60 := own_wrote o_o60 W_w62 d_o60_q6
          replace o_d60 := own_wrote o_d60 W_w62 d_d60_q6
          replace o_r60 := own_wrote o_r60 W_w62 d_r60_q6
          replace o_x60 := own_wrote o_x60 W_w62 d_x60_q6
          replace o_q60 := own_wrote o_q60 W_w62 d_q60_q6
          replace hB := below_wrote hB hB.size W_w62 g_q6.le
          clear W_w62
          refine q_v p48.s rfl rfl rfl (g_assign rfl rfl ?_)
          intro a49 p49
          have s5 : a49.eval (.tmp 5) = .bool false := p49.v
          refine wpList_nil ?_
          have kc46 := (((Kps.nil a46).u p47).u p48).u p49
          replace s4 := kc46.k s4 rfl
          replace s6 := kc46.k s6 rfl
          replace s8 := kc46.k s8 rfl
          clear kc46
          refine hK59 _ _ ?_
          clear hK59
          refine wp_ret ?_
          try dsimp only [Exit.then, Exit.inBlock]
          refine ret2 p49.s Try.results13 (res_cell s4 h_q6 Try.isAgg32 Try.sizeOf32 rfl) (res_tmp s5) ?_
          have hac := acc_room (b := b) (ok := ok) (ot := ot) (oa := oa) (ob := ob) (by omega)
          rw [← hkp] at hac
          have hcc : boOk (accC b ok ot oa ob) = false := by rw [hac]; exact hc58
          rw [bdAcc_no (.inr (.inr hcc))]
          exact ⟨⟨⟨pA60, b.ps.length, pc60⟩, ⟨lA60, b.ls.length, lc60⟩, ⟨oA60, b.os.length, oc60⟩, ⟨dA60, b.ds.length, dc60⟩, ⟨rA60, b.rs.length, rc60⟩, ⟨xA60, b.xs.length, xc60⟩, ⟨qA60, b.qs.length, qc60⟩⟩, rfl, ⟨o_p60, o_l60, o_o60, o_d60, o_r60, o_x60, o_q60, m_p60_x60, m_p60_q60, m_x60_q60⟩, hB⟩
        replace s74 : a46.eval (.tmp 74) = .bool false := (s74).trans (congrArg (fun b => Value.bool (!b)) hc58)
        refine c_false s74 ?_
        refine wp_skip ?_
        refine hK54 _ _ ?_
        clear hK54
        refine wp_seq_k fun K63 hK63 => ?_
        refine wp_region_lit ?_
        refine q_v p46.s rfl rfl rfl (g_loadB rfl s6 Try.isAgg32 Try.sizeOf32 rfl h_q25 ?_)
        intro a47 p47
        refine q_v p47.s rfl rfl rfl (g_move rfl (p47.k s8 rfl) ?_)
        intro a48 p48
        refine q_eff rfl rfl ?_
        refine g_storeB rfl (p48.k (p47.k s4 rfl) rfl) (p48.k p47.v rfl) Try.sizeOf32 rfl rfl h_q6 rfl ?_
        intro w64 W_w64
        replace h_q2 := keep_wrote h_q2 W_w64 n_q6_q2
        replace h_q6 := W_w64.here
        replace h_q25 := keep_wrote h_q25 W_w64 n_q6_q25
        replace h_q29 := keep_wrote h_q29 W_w64 n_q6_q29
        replace o_p23 := own_wrote o_p23 W_w64 d_p23_q6
        replace o_l23 := own_wrote o_l23 W_w64 d_l23_q6
        replace o_d23 := own_wrote o_d23 W_w64 d_d23_q6
        replace o_r23 := own_wrote o_r23 W_w64 d_r23_q6
        replace o_x23 := own_wrote o_x23 W_w64 d_x23_q6
        replace o_q23 := own_wrote o_q23 W_w64 d_q23_q6
        replace o_r51 := own_wrote o_r51 W_w64 d_r51_q6
        replace hB := below_wrote hB hB.size W_w64 g_q6.le
        clear W_w64
        refine q_v p48.s rfl rfl rfl (g_assign rfl p48.v ?_)
        intro a49 p49
        refine wpList_nil ?_
        replace s4 := p49.k (p48.k (p47.k s4 rfl) rfl) rfl
        replace s5 := p49.v
        refine hK63 _ _ ?_
        clear hK63
        refine wp_ret ?_
        try dsimp only [Exit.then, Exit.inBlock]
        refine ret2 p49.s Try.results13 (res_cell s4 h_q6 Try.isAgg32 Try.sizeOf32 rfl) (res_tmp s5) ?_
        have hac := acc_room (b := b) (ok := ok) (ot := ot) (oa := oa) (ob := ob) (by omega)
        rw [← hkp] at hac
        have hcc : boOk (accC b ok ot oa ob) = true := by rw [hac]; exact hc58
        rw [bdAcc_yes h1 h2 hcc, hac, decide_eq_true (by omega)]
        exact ⟨⟨⟨pA23, b.ps.length, pc23⟩, ⟨lA23, b.ls.length, lc23⟩, ⟨A_r51, (b.os.length + 1), c_r51⟩, ⟨dA23, b.ds.length, dc23⟩, ⟨rA23, b.rs.length, rc23⟩, ⟨xA23, b.xs.length, xc23⟩, ⟨qA23, b.qs.length, qc23⟩⟩, rfl, ⟨o_p23, o_l23, o_r51, o_d23, o_r23, o_x23, o_q23, m_p23_x23, m_p23_q23, m_x23_q23⟩, hB⟩
    refine wp_drawn (n := 79) [] [] [] (fun k_ v_ _wx => match k_ with | 0 => v_ = .int .i64 ((k : Nat) : Int) | 1 => v_ = .bool false | 2 => v_ = .bool false | 14 => v_ = .bool false | _ => True) (by kernel_rfl) (by kernel_rfl) (by kernel_rfl) (by kernel_rfl) hs.size ?_ ?_ ?_
    · intro i v wa wb hb hr
      rcases i with _ | _ | _ | _ | _ | _ | _ | _ | _ | _ | _ | _ | _ | _ | _ | i
      · exact hr
      · exact hr
      · exact hr
      · trivial
      · trivial
      · trivial
      · trivial
      · trivial
      · trivial
      · trivial
      · trivial
      · trivial
      · trivial
      · trivial
      · exact hr
      · trivial
    · refine d_step rfl rfl ?_ (d_step rfl rfl ?_ (d_step rfl rfl ?_ (d_skip 2 true 40 rfl rfl rfl (fun v w h => Or.inl h) (fun w => trivial) (d_skip 2 true 40 rfl rfl rfl (fun v w h => Or.inl h) (fun w => trivial) (d_skip 2 true 40 rfl rfl rfl (fun v w h => Or.inl h) (fun w => trivial) (d_skip 2 true 40 rfl rfl rfl (fun v w h => Or.inl h) (fun w => trivial) (d_skip 2 true 40 rfl rfl rfl (fun v w h => Or.inl h) (fun w => trivial) (d_skip 2 true 40 rfl rfl rfl (fun v w h => Or.inl h) (fun w => trivial) (d_skip 2 true 40 rfl rfl rfl (fun v w h => Or.inl h) (fun w => trivial) (d_skip 2 true 40 rfl rfl rfl (fun v w h => Or.inl h) (fun w => trivial) (d_skip 2 true 40 rfl rfl rfl (fun v w h => Or.inl h) (fun w => trivial) (d_skip 2 true 40 rfl rfl rfl (fun v w h => Or.inl h) (fun w => trivial) (d_skip 2 true 40 rfl rfl rfl (fun v w h => Or.inl h) (fun w => trivial) (d_step rfl rfl ?_ (d_nil)))))))))))))))
      · intro xv_ wx ρ hρ hwx hd K hK
        have e9 : ρ (.tmp 9) = .int .i64 ((k : Nat) : Int) := (hρ.inn 9 rfl).trans s9
        refine g_move rfl e9 ?_
        exact hK _ _ (Below.refl _ _) rfl
      · intro xv_ wx ρ hρ hwx hd K hK
        obtain r0 : xv_ 0 = .int .i64 ((k : Nat) : Int) := hd 0 rfl
        have e38 : ρ (.tmp 38) = .int .i64 ((k : Nat) : Int) := (hρ.out 0 38 rfl (by rw [hs.size]; decide) rfl).trans r0
        refine g_gtr rfl e38 ((hρ.cst _)) ?_
        exact hK _ _ (Below.refl _ _) (congrArg Value.bool (decide_eq_false hk0))
      · intro xv_ wx ρ hρ hwx hd K hK
        obtain r1 : xv_ 1 = .bool false := hd 1 rfl
        have e39 : ρ (.tmp 39) = .bool false := (hρ.out 1 39 rfl (by rw [hs.size]; decide) rfl).trans r1
        refine g_move rfl e39 ?_
        exact hK _ _ (Below.refl _ _) rfl
      · intro xv_ wx ρ hρ hwx hd K hK
        obtain r2 : xv_ 2 = .bool false := hd 2 rfl
        have e40 : ρ (.tmp 40) = .bool false := (hρ.out 2 40 rfl (by rw [hs.size]; decide) rfl).trans r2
        refine g_pick_f rfl e40 ((hρ.cst _)) ?_
        exact hK _ _ (Below.refl _ _) rfl
    · intro x0_ w65 hb_w65 hr0
      obtain r0 : x0_ 0 = .int .i64 ((k : Nat) : Int) := hr0 0 (by decide) rfl rfl
      obtain r1 : x0_ 1 = .bool false := hr0 1 (by decide) rfl rfl
      obtain r2 : x0_ 2 = .bool false := hr0 2 (by decide) rfl rfl
      obtain r14 : x0_ 14 = .bool false := hr0 14 (by decide) rfl rfl
      clear hr0
      replace h_q2 := keep_below h_q2 hb_w65
      replace h_q6 := keep_below h_q6 hb_w65
      replace h_q25 := keep_below h_q25 hb_w65
      replace h_q29 := keep_below h_q29 hb_w65
      replace o_p23 := own_below o_p23 hb_w65
      replace o_l23 := own_below o_l23 hb_w65
      replace o_o23 := own_below o_o23 hb_w65
      replace o_d23 := own_below o_d23 hb_w65
      replace o_r23 := own_below o_r23 hb_w65
      replace o_x23 := own_below o_x23 hb_w65
      replace o_q23 := own_below o_q23 hb_w65
      replace hB := hB.trans (hb_w65.mono hB.size)
      clear hb_w65
      intro xv_ a36 hρ hsz hdf qx_ ql_ qk_ qlk_
      replace s2 : a36.eval (.tmp 2) = .pointer (some ⟨q2, 0, none⟩) := (hρ.inn 2 rfl).trans s2
      replace s3 : a36.eval (.tmp 3) = .pointer (some ⟨q4, 0, none⟩) := (hρ.inn 3 rfl).trans s3
      replace s4 : a36.eval (.tmp 4) = .pointer (some ⟨q6, 0, none⟩) := (hρ.inn 4 rfl).trans s4
      replace s5 : a36.eval (.tmp 5) = .bool false := (hρ.inn 5 rfl).trans s5
      replace s6 : a36.eval (.tmp 6) = .pointer (some ⟨q25, 0, none⟩) := (hρ.inn 6 rfl).trans s6
      replace s7 : a36.eval (.tmp 7) = .pointer (some ⟨q29, 0, none⟩) := (hρ.inn 7 rfl).trans s7
      replace s8 : a36.eval (.tmp 8) = .bool true := (hρ.inn 8 rfl).trans s8
      replace s9 : a36.eval (.tmp 9) = .int .i64 ((k : Nat) : Int) := (hρ.inn 9 rfl).trans s9
      have s52 : a36.eval (.tmp 52) = .bool false := (hρ.out 14 52 rfl (by rw [hs.size]; decide)).trans ((qx_ 14 (by decide) rfl rfl).trans r14)
      replace hs : St 79 a36 := ⟨hsz.trans hs.size, hdf.trans hs.nodef⟩
      clear hρ hsz hdf qx_ ql_ qk_ qlk_
      refine hK43 _ _ ?_
      clear hK43
      refine c_false s52 ?_
      refine wp_exit ?_
      refine hK38 _ _ ?_
      clear hK38
      have hkp : k = accPos b.os ot := accN_stop (.inl (by omega)) hp
      have hkl : k ≤ b.os.length := hk
      refine wp_region_lit ?_
      refine q_v hs rfl rfl rfl (g_field (r := 4) rfl s6 Try.underlying32 rfl (fun w => Try.sizeOf26 w) rfl rfl ?_)
      intro a37 p37
      refine q_v p37.s rfl rfl rfl (g_load rfl p37.v Try.isAgg26 (box_cell h_q25 rfl) ?_)
      intro a38 p38
      refine q_v p38.s rfl rfl rfl (g_move rfl (p38.k (p37.k s9 rfl) rfl) ?_)
      intro a39 p39
      refine q_v p39.s rfl rfl rfl (g_loadB rfl (p39.k (p38.k (p37.k s7 rfl) rfl) rfl) Try.isAgg45 Try.sizeOf45 rfl h_q29 ?_)
      intro a40 p40
      refine q_v p40.s rfl rfl rfl ?_
      refine g_bslice1 (cs := #[.int .i64 b.taken, .int .i64 ok, .int .i64 ot, .int .i64 oa, .int .i64 ob]) rfl Try.underlying26 Try.sizeOf45 Try.zeroValue45 p40.v (by kernel_rfl) rfl (by decide) ?_
      intro q66 w67 N_q66
      have d_o23_q66 := own_ne_new o_o23 N_q66
      replace h_q2 := keep_below h_q2 N_q66.below
      replace h_q6 := keep_below h_q6 N_q66.below
      replace h_q25 := keep_below h_q25 N_q66.below
      replace h_q29 := keep_below h_q29 N_q66.below
      replace o_p23 := own_below o_p23 N_q66.below
      replace o_l23 := own_below o_l23 N_q66.below
      replace o_o23 := own_below o_o23 N_q66.below
      replace o_d23 := own_below o_d23 N_q66.below
      replace o_r23 := own_below o_r23 N_q66.below
      replace o_x23 := own_below o_x23 N_q66.below
      replace o_q23 := own_below o_q23 N_q66.below
      replace hB := below_new hB hB.size N_q66
      have h_q66 := N_q66.here
      clear N_q66
      intro a41 p41
      refine q_v p41.s rfl rfl rfl ?_
      refine g_call rfl rfl Try.call42 (arr3 (p41.k (p40.k (p39.k p38.v rfl) rfl) rfl) (p41.k (p40.k p39.v rfl) rfl) p41.v) ?_
      refine (insertWaiting_at (x := ⟨b.taken, ok, ot, oa, ob⟩) _ rfl (by omega) (by omega) h_q66 d_o23_q66 hB.size o_o23).mono ?_
      rintro e w69 ⟨A_r68, c_r68, rfl, P_r68⟩
      refine ⟨_, rfl, ?_⟩
      have d_r68_q6 := P_r68.ne d_o23_q6 (lt_of_block h_q6)
      have d_r68_q25 := P_r68.ne d_o23_q25 (lt_of_block h_q25)
      replace h_q2 := keep_grown h_q2 P_r68.grown d_o23_q2
      replace h_q6 := keep_grown h_q6 P_r68.grown d_o23_q6
      replace h_q25 := keep_grown h_q25 P_r68.grown d_o23_q25
      replace h_q29 := keep_grown h_q29 P_r68.grown d_o23_q29
      replace o_p23 := own_grown o_p23 P_r68.grown m_p23_o23
      replace o_l23 := own_grown o_l23 P_r68.grown m_l23_o23
      replace o_d23 := own_grown o_d23 P_r68.grown m_d23_o23
      replace o_r23 := own_grown o_r23 P_r68.grown m_r23_o23
      replace o_x23 := own_grown o_x23 P_r68.grown m_x23_o23
      replace o_q23 := own_grown o_q23 P_r68.grown m_q23_o23
      replace hB := below_grown hB hB.size P_r68.grown g_o23
      have o_r68 := P_r68.own
      clear P_r68
      intro a42 p42
      refine q_v p42.s rfl rfl rfl (g_field (r := 4) rfl (p42.k (p41.k (p40.k (p39.k (p38.k (p37.k s6 rfl) rfl) rfl) rfl) rfl) rfl) Try.underlying32 rfl (fun w => Try.sizeOf26 w) rfl rfl ?_)
      intro a43 p43
      refine q_eff rfl rfl ?_
      refine g_store (cs' := #[.int .i64 b.clk, .slice pA23 b.ps.length pc23, .bool b.safe, .slice lA23 b.ls.length lc23, .slice A_r68 (b.os.length + 1) c_r68, .slice dA23 b.ds.length dc23, .int .i64 b.room, .slice rA23 b.rs.length rc23, .slice xA23 b.xs.length xc23, .int .i64 b.made, .int .i64 (b.taken + 1), .slice qA23 b.qs.length qc23]) rfl p43.v (p43.k p42.v rfl) Try.sizeOf26 rfl h_q25 (Nat.le_of_ble_eq_true rfl) rfl ?_
      intro w70 W_w70
      replace h_q2 := keep_wrote h_q2 W_w70 n_q25_q2
      replace h_q6 := keep_wrote h_q6 W_w70 n_q25_q6
      replace h_q25 := W_w70.here
      replace h_q29 := keep_wrote h_q29 W_w70 n_q25_q29
      replace o_p23 := own_wrote o_p23 W_w70 d_p23_q25
      replace o_l23 := own_wrote o_l23 W_w70 d_l23_q25
      replace o_d23 := own_wrote o_d23 W_w70 d_d23_q25
      replace o_r23 := own_wrote o_r23 W_w70 d_r23_q25
      replace o_x23 := own_wrote o_x23 W_w70 d_x23_q25
      replace o_q23 := own_wrote o_q23 W_w70 d_q23_q25
      replace o_r68 := own_wrote o_r68 W_w70 d_r68_q25
      replace hB := below_wrote hB hB.size W_w70 g_q25.le
      clear W_w70
      refine wpList_nil ?_
      have kc36 := (((((((Kps.nil a36).u p37).u p38).u p39).u p40).u p41).u p42).u p43
      replace s2 := kc36.k s2 rfl
      replace s4 := kc36.k s4 rfl
      replace s5 := kc36.k s5 rfl
      replace s6 := kc36.k s6 rfl
      replace s7 := kc36.k s7 rfl
      replace s8 := kc36.k s8 rfl
      clear kc36
      refine hK35 _ _ ?_
      clear hK35
      refine wp_seq_k fun K71 hK71 => ?_
      refine wp_seq_k fun K72 hK72 => ?_
      refine wp_region_lit ?_
      refine q_v p43.s rfl rfl rfl (g_loadB rfl s6 Try.isAgg32 Try.sizeOf32 rfl h_q25 ?_)
      intro a44 p44
      refine q_v p44.s rfl rfl rfl ?_
      refine g_call rfl rfl Try.call21 (arr1 p44.v) ?_
      refine (boardOk_any (S := (⟨⟨pA23, b.ps.length, pc23⟩, ⟨lA23, b.ls.length, lc23⟩, ⟨A_r68, (b.os.length + 1), c_r68⟩, ⟨dA23, b.ds.length, dc23⟩, ⟨rA23, b.rs.length, rc23⟩, ⟨xA23, b.xs.length, xc23⟩, ⟨qA23, b.qs.length, qc23⟩⟩ : BSl)) (b := (⟨b.clk, b.ps, b.safe, b.ls, insL b.os k ⟨b.taken, ok, ot, oa, ob⟩, b.ds, b.room, b.rs, b.xs, b.made, b.taken + 1, b.qs⟩ : EBoard)) _ ⟨⟨(Rd.of_own o_p23), rfl, (own_nil o_p23), (own_cap o_p23).1⟩, ⟨(Rd.of_own o_l23), rfl, (own_nil o_l23), (own_cap o_l23).1⟩, ⟨(Rd.of_own o_r68), ((insL_len ..).trans (by rw [show b.os.length = b.os.length from rfl])), (own_nil o_r68), (own_cap o_r68).1⟩, ⟨(Rd.of_own o_d23), rfl, (own_nil o_d23), (own_cap o_d23).1⟩, ⟨(Rd.of_own o_r23), rfl, (own_nil o_r23), (own_cap o_r23).1⟩, ⟨(Rd.of_own o_x23), rfl, (own_nil o_x23), (own_cap o_x23).1⟩, ⟨(Rd.of_own o_q23), rfl, (own_nil o_q23), (own_cap o_q23).1⟩⟩ ⟨leq_len (n := b.ps.length) rfl (by omega), leq_len (n := b.ls.length) rfl (by omega), leq_len (n := (b.os.length + 1)) ((insL_len ..).trans (by rw [show b.os.length = b.os.length from rfl])) (by omega), leq_len (n := b.ds.length) rfl (by omega), leq_len (n := b.rs.length) rfl (by omega), leq_len (n := b.xs.length) rfl (by omega), leq_len (n := b.qs.length) rfl (by omega), hW.tx⟩).mono ?_
      rintro e w74 ⟨rfl, hb73⟩
      refine ⟨_, rfl, ?_⟩
      replace h_q2 := keep_below h_q2 hb73
      replace h_q6 := keep_below h_q6 hb73
      replace h_q25 := keep_below h_q25 hb73
      replace h_q29 := keep_below h_q29 hb73
      replace o_p23 := own_below o_p23 hb73
      replace o_l23 := own_below o_l23 hb73
      replace o_d23 := own_below o_d23 hb73
      replace o_r23 := own_below o_r23 hb73
      replace o_x23 := own_below o_x23 hb73
      replace o_q23 := own_below o_q23 hb73
      replace o_r68 := own_below o_r68 hb73
      replace hB := hB.trans (hb73.mono hB.size)
      clear hb73
      intro a45 p45
      refine q_v p45.s rfl rfl rfl (g_not rfl p45.v ?_)
      intro a46 p46
      refine wpList_nil ?_
      have kc43 := (((Kps.nil a43).u p44).u p45).u p46
      replace s2 := kc43.k s2 rfl
      replace s4 := kc43.k s4 rfl
      replace s5 := kc43.k s5 rfl
      replace s6 := kc43.k s6 rfl
      replace s8 := kc43.k s8 rfl
      replace s74 := p46.v
      clear kc43
      refine hK72 _ _ ?_
      clear hK72
      cases hc75 : boOk (⟨b.clk, b.ps, b.safe, b.ls, insL b.os k ⟨b.taken, ok, ot, oa, ob⟩, b.ds, b.room, b.rs, b.xs, b.made, b.taken + 1, b.qs⟩ : EBoard)
      · replace s74 : a46.eval (.tmp 74) = .bool true := (s74).trans (congrArg (fun b => Value.bool (!b)) hc75)
        refine c_true s74 ?_
        refine wp_seq_k fun K76 hK76 => ?_
        refine wp_region_lit ?_
        refine q_v p46.s rfl rfl rfl (g_loadB rfl s2 Try.isAgg32 Try.sizeOf32 rfl h_q2 ?_)
        intro a47 p47
        refine q_v p47.s rfl rfl rfl ?_
        refine g_call rfl rfl Try.call41 (arr1 p47.v) ?_
        refine (cloneBoard_any (S := (⟨⟨pA, b.ps.length, pc⟩, ⟨lA, b.ls.length, lc⟩, ⟨oA, b.os.length, oc⟩, ⟨dA, b.ds.length, dc⟩, ⟨rA, b.rs.length, rc⟩, ⟨xA, b.xs.length, xc⟩, ⟨qA, b.qs.length, qc⟩⟩ : BSl)) (b := b) _ ⟨⟨(hr_p.below hB), rfl, hnn_p, hnc_p⟩, ⟨(hr_l.below hB), rfl, hnn_l, hnc_l⟩, ⟨(hr_o.below hB), rfl, hnn_o, hnc_o⟩, ⟨(hr_d.below hB), rfl, hnn_d, hnc_d⟩, ⟨(hr_r.below hB), rfl, hnn_r, hnc_r⟩, ⟨(hr_x.below hB), rfl, hnn_x, hnc_x⟩, ⟨(hr_q.below hB), rfl, hnn_q, hnc_q⟩⟩ hW).mono ?_
        rintro e w78 ⟨⟨⟨pA77, pn77, pc77⟩, ⟨lA77, ln77, lc77⟩, ⟨oA77, on77, oc77⟩, ⟨dA77, dn77, dc77⟩, ⟨rA77, rn77, rc77⟩, ⟨xA77, xn77, xc77⟩, ⟨qA77, qn77, qc77⟩⟩, rfl, ⟨o_p77, o_l77, o_o77, o_d77, o_r77, o_x77, o_q77, ma77, mb77, mc77⟩, hb77⟩
        refine ⟨_, rfl, ?_⟩
        have ep77 : b.ps.length = pn77 := own_lenI o_p77
        subst pn77
        have el77 : b.ls.length = ln77 := own_lenOf (by decide) cLimit_len o_l77
        subst ln77
        have eo77 : b.os.length = on77 := own_lenOf (by decide) cWaiting_len o_o77
        subst on77
        have ed77 : b.ds.length = dn77 := own_lenOf (by decide) cDone_len o_d77
        subst dn77
        have er77 : b.rs.length = rn77 := own_lenOf (by decide) cRecord_len o_r77
        subst rn77
        have ex77 : b.xs.length = xn77 := own_lenI o_x77
        subst xn77
        have eq77 : b.qs.length = qn77 := own_lenI o_q77
        subst qn77
        change w78.ownsRow w74.heap.size 3 1 (.slice pA77 b.ps.length pc77) b.ps.length (b.ps.flatMap cI) at o_p77
        change w78.ownsRow w74.heap.size 36 3 (.slice lA77 b.ls.length lc77) b.ls.length (b.ls.flatMap cLimit) at o_l77
        change w78.ownsRow w74.heap.size 45 5 (.slice oA77 b.os.length oc77) b.os.length (b.os.flatMap cWaiting) at o_o77
        change w78.ownsRow w74.heap.size 51 3 (.slice dA77 b.ds.length dc77) b.ds.length (b.ds.flatMap cDone) at o_d77
        change w78.ownsRow w74.heap.size 47 4 (.slice rA77 b.rs.length rc77) b.rs.length (b.rs.flatMap cRecord) at o_r77
        change w78.ownsRow w74.heap.size 3 1 (.slice xA77 b.xs.length xc77) b.xs.length (b.xs.flatMap cI) at o_x77
        change w78.ownsRow w74.heap.size 3 1 (.slice qA77 b.qs.length qc77) b.qs.length (b.qs.flatMap cI) at o_q77
        have m_p77_x77 := ma77
        have m_p77_q77 := mb77
        have m_x77_q77 := mc77
        have d_p77_q6 := own_ne_box o_p77 (lt_of_block h_q6)
        replace o_p77 := own_base (base := w.heap.size) o_p77 hB.size
        have d_l77_q6 := own_ne_box o_l77 (lt_of_block h_q6)
        replace o_l77 := own_base (base := w.heap.size) o_l77 hB.size
        have d_o77_q6 := own_ne_box o_o77 (lt_of_block h_q6)
        replace o_o77 := own_base (base := w.heap.size) o_o77 hB.size
        have d_d77_q6 := own_ne_box o_d77 (lt_of_block h_q6)
        replace o_d77 := own_base (base := w.heap.size) o_d77 hB.size
        have d_r77_q6 := own_ne_box o_r77 (lt_of_block h_q6)
        replace o_r77 := own_base (base := w.heap.size) o_r77 hB.size
        have d_x77_q6 := own_ne_box o_x77 (lt_of_block h_q6)
        replace o_x77 := own_base (base := w.heap.size) o_x77 hB.size
        have d_q77_q6 := own_ne_box o_q77 (lt_of_block h_q6)
        replace o_q77 := own_base (base := w.heap.size) o_q77 hB.size
        replace h_q2 := keep_below h_q2 hb77
        replace h_q6 := keep_below h_q6 hb77
        replace h_q25 := keep_below h_q25 hb77
        replace h_q29 := keep_below h_q29 hb77
        replace o_p23 := own_below o_p23 hb77
        replace o_l23 := own_below o_l23 hb77
        replace o_d23 := own_below o_d23 hb77
        replace o_r23 := own_below o_r23 hb77
        replace o_x23 := own_below o_x23 hb77
        replace o_q23 := own_below o_q23 hb77
        replace o_r68 := own_below o_r68 hb77
        replace hB := hB.trans (hb77.mono hB.size)
        clear hb77
        intro a48 p48
        refine q_eff rfl rfl ?_
        refine g_storeB rfl (p48.k (p47.k s4 rfl) rfl) p48.v Try.sizeOf32 rfl rfl h_q6 rfl ?_
        intro w79 W_w79
        replace h_q2 := keep_wrote h_q2 W_w79 n_q6_q2
        replace h_q6 := W_w79.here
        replace h_q25 := keep_wrote h_q25 W_w79 n_q6_q25
        replace h_q29 := keep_wrote h_q29 W_w79 n_q6_q29
        replace o_p23 := own_wrote o_p23 W_w79 d_p23_q6
        replace o_l23 := own_wrote o_l23 W_w79 d_l23_q6
        replace o_d23 := own_wrote o_d23 W_w79 d_d23_q6
        replace o_r23 := own_wrote o_r23 W_w79 d_r23_q6
        replace o_x23 := own_wrote o_x23 W_w79 d_x23_q6
        replace o_q23 := own_wrote o_q23 W_w79 d_q23_q6
        replace o_r68 := own_wrote o_r68 W_w79 d_r68_q6
        replace o_p77 := own_wrote o_p77 W_w79 d_p77_q6
        replace o_l77 := own_wrote o_l77 W_w79 d_l77_q6
        replace o_o77 := own_wrote o_o77 W_w79 d_o77_q6
        replace o_d77 := own_wrote o_d77 W_w79 d_d77_q6
        replace o_r77 := own_wrote o_r77 W_w79 d_r77_q6
        replace o_x77 := own_wrote o_x77 W_w79 d_x77_q6
        replace o_q77 := own_wrote o_q77 W_w79 d_q77_q6
        replace hB := below_wrote hB hB.size W_w79 g_q6.le
        clear W_w79
        refine q_v p48.s rfl rfl rfl (g_assign rfl rfl ?_)
        intro a49 p49
        have s5 : a49.eval (.tmp 5) = .bool false := p49.v
        refine wpList_nil ?_
        have kc46 := (((Kps.nil a46).u p47).u p48).u p49
        replace s4 := kc46.k s4 rfl
        replace s6 := kc46.k s6 rfl
        replace s8 := kc46.k s8 rfl
        clear kc46
        refine hK76 _ _ ?_
        clear hK76
        refine wp_ret ?_
        try dsimp only [Exit.then, Exit.inBlock]
        refine ret2 p49.s Try.results13 (res_cell s4 h_q6 Try.isAgg32 Try.sizeOf32 rfl) (res_tmp s5) ?_
        have hac := acc_room (b := b) (ok := ok) (ot := ot) (oa := oa) (ob := ob) (by omega)
        rw [← hkp] at hac
        have hcc : boOk (accC b ok ot oa ob) = false := by rw [hac]; exact hc75
        rw [bdAcc_no (.inr (.inr hcc))]
        exact ⟨⟨⟨pA77, b.ps.length, pc77⟩, ⟨lA77, b.ls.length, lc77⟩, ⟨oA77, b.os.length, oc77⟩, ⟨dA77, b.ds.length, dc77⟩, ⟨rA77, b.rs.length, rc77⟩, ⟨xA77, b.xs.length, xc77⟩, ⟨qA77, b.qs.length, qc77⟩⟩, rfl, ⟨o_p77, o_l77, o_o77, o_d77, o_r77, o_x77, o_q77, m_p77_x77, m_p77_q77, m_x77_q77⟩, hB⟩
      replace s74 : a46.eval (.tmp 74) = .bool false := (s74).trans (congrArg (fun b => Value.bool (!b)) hc75)
      refine c_false s74 ?_
      refine wp_skip ?_
      refine hK71 _ _ ?_
      clear hK71
      refine wp_seq_k fun K80 hK80 => ?_
      refine wp_region_lit ?_
      refine q_v p46.s rfl rfl rfl (g_loadB rfl s6 Try.isAgg32 Try.sizeOf32 rfl h_q25 ?_)
      intro a47 p47
      refine q_v p47.s rfl rfl rfl (g_move rfl (p47.k s8 rfl) ?_)
      intro a48 p48
      refine q_eff rfl rfl ?_
      refine g_storeB rfl (p48.k (p47.k s4 rfl) rfl) (p48.k p47.v rfl) Try.sizeOf32 rfl rfl h_q6 rfl ?_
      intro w81 W_w81
      replace h_q2 := keep_wrote h_q2 W_w81 n_q6_q2
      replace h_q6 := W_w81.here
      replace h_q25 := keep_wrote h_q25 W_w81 n_q6_q25
      replace h_q29 := keep_wrote h_q29 W_w81 n_q6_q29
      replace o_p23 := own_wrote o_p23 W_w81 d_p23_q6
      replace o_l23 := own_wrote o_l23 W_w81 d_l23_q6
      replace o_d23 := own_wrote o_d23 W_w81 d_d23_q6
      replace o_r23 := own_wrote o_r23 W_w81 d_r23_q6
      replace o_x23 := own_wrote o_x23 W_w81 d_x23_q6
      replace o_q23 := own_wrote o_q23 W_w81 d_q23_q6
      replace o_r68 := own_wrote o_r68 W_w81 d_r68_q6
      replace hB := below_wrote hB hB.size W_w81 g_q6.le
      clear W_w81
      refine q_v p48.s rfl rfl rfl (g_assign rfl p48.v ?_)
      intro a49 p49
      refine wpList_nil ?_
      replace s4 := p49.k (p48.k (p47.k s4 rfl) rfl) rfl
      replace s5 := p49.v
      refine hK80 _ _ ?_
      clear hK80
      refine wp_ret ?_
      try dsimp only [Exit.then, Exit.inBlock]
      refine ret2 p49.s Try.results13 (res_cell s4 h_q6 Try.isAgg32 Try.sizeOf32 rfl) (res_tmp s5) ?_
      have hac := acc_room (b := b) (ok := ok) (ot := ot) (oa := oa) (ob := ob) (by omega)
      rw [← hkp] at hac
      have hcc : boOk (accC b ok ot oa ob) = true := by rw [hac]; exact hc75
      rw [bdAcc_yes h1 h2 hcc, hac, decide_eq_true (by omega)]
      exact ⟨⟨⟨pA23, b.ps.length, pc23⟩, ⟨lA23, b.ls.length, lc23⟩, ⟨A_r68, (b.os.length + 1), c_r68⟩, ⟨dA23, b.ds.length, dc23⟩, ⟨rA23, b.rs.length, rc23⟩, ⟨xA23, b.xs.length, xc23⟩, ⟨qA23, b.qs.length, qc23⟩⟩, rfl, ⟨o_p23, o_l23, o_r68, o_d23, o_r23, o_x23, o_q23, m_p23_x23, m_p23_q23, m_x23_q23⟩, hB⟩
  replace s8 : a30.eval (.tmp 8) = .bool false := (s8).trans (congrArg Value.bool (decide_eq_false hroom))
  replace s34 : a30.eval (.tmp 34) = .bool false := (s34).trans (congrArg Value.bool (decide_eq_false hroom))
  refine c_false s34 ?_
  refine wp_region_lit ?_
  refine q_v p30.s rfl rfl rfl (g_field (r := 5) rfl s6 Try.underlying32 rfl (fun w => Try.sizeOf27 w) rfl rfl ?_)
  intro a31 p31
  refine q_v p31.s rfl rfl rfl (g_load rfl p31.v Try.isAgg27 (box_cell h_q25 rfl) ?_)
  intro a32 p32
  refine q_v p32.s rfl rfl rfl (g_field (r := 0) rfl (p32.k (p31.k s7 rfl) rfl) Try.underlying45 rfl (fun w => Try.sizeOf3 w) rfl rfl ?_)
  intro a33 p33
  refine q_v p33.s rfl rfl rfl (g_load rfl p33.v Try.isAgg3 (box_cell h_q29 rfl) ?_)
  intro a34 p34
  refine q_v p34.s rfl rfl rfl (g_field (r := 0) rfl (p34.k (p33.k (p32.k (p31.k s6 rfl) rfl) rfl) rfl) Try.underlying32 rfl (fun w => Try.sizeOf3 w) rfl rfl ?_)
  intro a35 p35
  refine q_v p35.s rfl rfl rfl (g_load rfl p35.v Try.isAgg3 (box_cell h_q25 rfl) ?_)
  intro a36 p36
  refine q_v p36.s rfl rfl rfl (g_build (cells := #[.int .i64 b.taken, .int .i64 b.clk, .int .i64 0]) rfl (arrB3 (p36.k (p35.k p34.v rfl) rfl) p36.v rfl) (by kernel_rfl) ?_)
  intro a37 p37
  refine q_v p37.s rfl rfl rfl ?_
  refine g_bslice1 (cs := #[.int .i64 b.taken, .int .i64 b.clk, .int .i64 0]) rfl Try.underlying27 Try.sizeOf51 Try.zeroValue51 p37.v (by kernel_rfl) rfl (by decide) ?_
  intro q82 w83 N_q82
  replace h_q2 := keep_below h_q2 N_q82.below
  replace h_q6 := keep_below h_q6 N_q82.below
  replace h_q25 := keep_below h_q25 N_q82.below
  replace o_p23 := own_below o_p23 N_q82.below
  replace o_l23 := own_below o_l23 N_q82.below
  replace o_o23 := own_below o_o23 N_q82.below
  replace o_d23 := own_below o_d23 N_q82.below
  replace o_r23 := own_below o_r23 N_q82.below
  replace o_x23 := own_below o_x23 N_q82.below
  replace o_q23 := own_below o_q23 N_q82.below
  replace hB := below_new hB hB.size N_q82
  have h_q82 := N_q82.here
  clear N_q82
  intro a38 p38
  refine q_v p38.s rfl rfl rfl ?_
  refine g_append (n' := b.ds.length + 1) (ys := (b.ds ++ [(⟨b.taken, b.clk, 0⟩ : EDone)]).flatMap cDone) w.heap.size (.agg #[.int .i64 0, .int .i64 0, .int .i64 0]) 3 24 rfl (p38.k (p37.k (p36.k (p35.k (p34.k (p33.k p32.v rfl) rfl) rfl) rfl) rfl) rfl) p38.v Try.underlying27 infoDone rfl (by decide) o_d23 (fun h => by cases h) (rd_box (xs := ([(⟨b.taken, b.clk, 0⟩ : EDone)]).flatMap cDone) h_q82 rfl rfl) (flatDone_one _) (by omega) hB.size (by decide) (by omega) (by first | rfl | simp [List.flatMap_append] | (simp [List.flatMap_append, cDone]; done)) ?_
  intro A_r84 c_r84 w85 P_r84
  have d_r84_q6 := P_r84.ne d_d23_q6 (lt_of_block h_q6)
  have d_r84_q25 := P_r84.ne d_d23_q25 (lt_of_block h_q25)
  replace h_q2 := keep_grown h_q2 P_r84.grown d_d23_q2
  replace h_q6 := keep_grown h_q6 P_r84.grown d_d23_q6
  replace h_q25 := keep_grown h_q25 P_r84.grown d_d23_q25
  replace o_p23 := own_grown o_p23 P_r84.grown m_p23_d23
  replace o_l23 := own_grown o_l23 P_r84.grown m_l23_d23
  replace o_o23 := own_grown o_o23 P_r84.grown m_o23_d23
  replace o_r23 := own_grown o_r23 P_r84.grown m_r23_d23
  replace o_x23 := own_grown o_x23 P_r84.grown m_x23_d23
  replace o_q23 := own_grown o_q23 P_r84.grown m_q23_d23
  replace hB := below_grown hB hB.size P_r84.grown g_d23
  have o_r84 := P_r84.own
  clear P_r84
  intro a39 p39
  refine q_v p39.s rfl rfl rfl (g_field (r := 5) rfl (p39.k (p38.k (p37.k (p36.k (p35.k (p34.k (p33.k (p32.k (p31.k s6 rfl) rfl) rfl) rfl) rfl) rfl) rfl) rfl) rfl) Try.underlying32 rfl (fun w => Try.sizeOf27 w) rfl rfl ?_)
  intro a40 p40
  refine q_eff rfl rfl ?_
  refine g_store (cs' := #[.int .i64 b.clk, .slice pA23 b.ps.length pc23, .bool b.safe, .slice lA23 b.ls.length lc23, .slice oA23 b.os.length oc23, .slice A_r84 (b.ds.length + 1) c_r84, .int .i64 b.room, .slice rA23 b.rs.length rc23, .slice xA23 b.xs.length xc23, .int .i64 b.made, .int .i64 (b.taken + 1), .slice qA23 b.qs.length qc23]) rfl p40.v (p40.k p39.v rfl) Try.sizeOf27 rfl h_q25 (Nat.le_of_ble_eq_true rfl) rfl ?_
  intro w86 W_w86
  replace h_q2 := keep_wrote h_q2 W_w86 n_q25_q2
  replace h_q6 := keep_wrote h_q6 W_w86 n_q25_q6
  replace h_q25 := W_w86.here
  replace o_p23 := own_wrote o_p23 W_w86 d_p23_q25
  replace o_l23 := own_wrote o_l23 W_w86 d_l23_q25
  replace o_o23 := own_wrote o_o23 W_w86 d_o23_q25
  replace o_r23 := own_wrote o_r23 W_w86 d_r23_q25
  replace o_x23 := own_wrote o_x23 W_w86 d_x23_q25
  replace o_q23 := own_wrote o_q23 W_w86 d_q23_q25
  replace o_r84 := own_wrote o_r84 W_w86 d_r84_q25
  replace hB := below_wrote hB hB.size W_w86 g_q25.le
  clear W_w86
  refine wpList_nil ?_
  have kc30 := ((((((((((Kps.nil a30).u p31).u p32).u p33).u p34).u p35).u p36).u p37).u p38).u p39).u p40
  replace s2 := kc30.k s2 rfl
  replace s4 := kc30.k s4 rfl
  replace s5 := kc30.k s5 rfl
  replace s6 := kc30.k s6 rfl
  replace s8 := kc30.k s8 rfl
  clear kc30
  refine hK35 _ _ ?_
  clear hK35
  refine wp_seq_k fun K87 hK87 => ?_
  refine wp_seq_k fun K88 hK88 => ?_
  refine wp_region_lit ?_
  refine q_v p40.s rfl rfl rfl (g_loadB rfl s6 Try.isAgg32 Try.sizeOf32 rfl h_q25 ?_)
  intro a41 p41
  refine q_v p41.s rfl rfl rfl ?_
  refine g_call rfl rfl Try.call21 (arr1 p41.v) ?_
  refine (boardOk_any (S := (⟨⟨pA23, b.ps.length, pc23⟩, ⟨lA23, b.ls.length, lc23⟩, ⟨oA23, b.os.length, oc23⟩, ⟨A_r84, b.ds.length + 1, c_r84⟩, ⟨rA23, b.rs.length, rc23⟩, ⟨xA23, b.xs.length, xc23⟩, ⟨qA23, b.qs.length, qc23⟩⟩ : BSl)) (b := (⟨b.clk, b.ps, b.safe, b.ls, b.os, b.ds ++ [(⟨b.taken, b.clk, 0⟩ : EDone)], b.room, b.rs, b.xs, b.made, b.taken + 1, b.qs⟩ : EBoard)) _ ⟨⟨(Rd.of_own o_p23), rfl, (own_nil o_p23), (own_cap o_p23).1⟩, ⟨(Rd.of_own o_l23), rfl, (own_nil o_l23), (own_cap o_l23).1⟩, ⟨(Rd.of_own o_o23), rfl, (own_nil o_o23), (own_cap o_o23).1⟩, ⟨(Rd.of_own o_r84), (by simp only [List.length_append, List.length_cons, List.length_nil, List.length_drop, List.length_take] <;> omega), (own_nil o_r84), (own_cap o_r84).1⟩, ⟨(Rd.of_own o_r23), rfl, (own_nil o_r23), (own_cap o_r23).1⟩, ⟨(Rd.of_own o_x23), rfl, (own_nil o_x23), (own_cap o_x23).1⟩, ⟨(Rd.of_own o_q23), rfl, (own_nil o_q23), (own_cap o_q23).1⟩⟩ ⟨leq_len (n := b.ps.length) rfl (by omega), leq_len (n := b.ls.length) rfl (by omega), leq_len (n := b.os.length) rfl (by omega), leq_len (n := b.ds.length + 1) (by simp only [List.length_append, List.length_cons, List.length_nil, List.length_drop, List.length_take] <;> omega) (by omega), leq_len (n := b.rs.length) rfl (by omega), leq_len (n := b.xs.length) rfl (by omega), leq_len (n := b.qs.length) rfl (by omega), hW.tx⟩).mono ?_
  rintro e w90 ⟨rfl, hb89⟩
  refine ⟨_, rfl, ?_⟩
  replace h_q2 := keep_below h_q2 hb89
  replace h_q6 := keep_below h_q6 hb89
  replace h_q25 := keep_below h_q25 hb89
  replace o_p23 := own_below o_p23 hb89
  replace o_l23 := own_below o_l23 hb89
  replace o_o23 := own_below o_o23 hb89
  replace o_r23 := own_below o_r23 hb89
  replace o_x23 := own_below o_x23 hb89
  replace o_q23 := own_below o_q23 hb89
  replace o_r84 := own_below o_r84 hb89
  replace hB := hB.trans (hb89.mono hB.size)
  clear hb89
  intro a42 p42
  refine q_v p42.s rfl rfl rfl (g_not rfl p42.v ?_)
  intro a43 p43
  refine wpList_nil ?_
  have kc40 := (((Kps.nil a40).u p41).u p42).u p43
  replace s2 := kc40.k s2 rfl
  replace s4 := kc40.k s4 rfl
  replace s5 := kc40.k s5 rfl
  replace s6 := kc40.k s6 rfl
  replace s8 := kc40.k s8 rfl
  replace s74 := p43.v
  clear kc40
  refine hK88 _ _ ?_
  clear hK88
  cases hc91 : boOk (⟨b.clk, b.ps, b.safe, b.ls, b.os, b.ds ++ [(⟨b.taken, b.clk, 0⟩ : EDone)], b.room, b.rs, b.xs, b.made, b.taken + 1, b.qs⟩ : EBoard)
  · replace s74 : a43.eval (.tmp 74) = .bool true := (s74).trans (congrArg (fun b => Value.bool (!b)) hc91)
    refine c_true s74 ?_
    refine wp_seq_k fun K92 hK92 => ?_
    refine wp_region_lit ?_
    refine q_v p43.s rfl rfl rfl (g_loadB rfl s2 Try.isAgg32 Try.sizeOf32 rfl h_q2 ?_)
    intro a44 p44
    refine q_v p44.s rfl rfl rfl ?_
    refine g_call rfl rfl Try.call41 (arr1 p44.v) ?_
    refine (cloneBoard_any (S := (⟨⟨pA, b.ps.length, pc⟩, ⟨lA, b.ls.length, lc⟩, ⟨oA, b.os.length, oc⟩, ⟨dA, b.ds.length, dc⟩, ⟨rA, b.rs.length, rc⟩, ⟨xA, b.xs.length, xc⟩, ⟨qA, b.qs.length, qc⟩⟩ : BSl)) (b := b) _ ⟨⟨(hr_p.below hB), rfl, hnn_p, hnc_p⟩, ⟨(hr_l.below hB), rfl, hnn_l, hnc_l⟩, ⟨(hr_o.below hB), rfl, hnn_o, hnc_o⟩, ⟨(hr_d.below hB), rfl, hnn_d, hnc_d⟩, ⟨(hr_r.below hB), rfl, hnn_r, hnc_r⟩, ⟨(hr_x.below hB), rfl, hnn_x, hnc_x⟩, ⟨(hr_q.below hB), rfl, hnn_q, hnc_q⟩⟩ hW).mono ?_
    rintro e w94 ⟨⟨⟨pA93, pn93, pc93⟩, ⟨lA93, ln93, lc93⟩, ⟨oA93, on93, oc93⟩, ⟨dA93, dn93, dc93⟩, ⟨rA93, rn93, rc93⟩, ⟨xA93, xn93, xc93⟩, ⟨qA93, qn93, qc93⟩⟩, rfl, ⟨o_p93, o_l93, o_o93, o_d93, o_r93, o_x93, o_q93, ma93, mb93, mc93⟩, hb93⟩
    refine ⟨_, rfl, ?_⟩
    have ep93 : b.ps.length = pn93 := own_lenI o_p93
    subst pn93
    have el93 : b.ls.length = ln93 := own_lenOf (by decide) cLimit_len o_l93
    subst ln93
    have eo93 : b.os.length = on93 := own_lenOf (by decide) cWaiting_len o_o93
    subst on93
    have ed93 : b.ds.length = dn93 := own_lenOf (by decide) cDone_len o_d93
    subst dn93
    have er93 : b.rs.length = rn93 := own_lenOf (by decide) cRecord_len o_r93
    subst rn93
    have ex93 : b.xs.length = xn93 := own_lenI o_x93
    subst xn93
    have eq93 : b.qs.length = qn93 := own_lenI o_q93
    subst qn93
    change w94.ownsRow w90.heap.size 3 1 (.slice pA93 b.ps.length pc93) b.ps.length (b.ps.flatMap cI) at o_p93
    change w94.ownsRow w90.heap.size 36 3 (.slice lA93 b.ls.length lc93) b.ls.length (b.ls.flatMap cLimit) at o_l93
    change w94.ownsRow w90.heap.size 45 5 (.slice oA93 b.os.length oc93) b.os.length (b.os.flatMap cWaiting) at o_o93
    change w94.ownsRow w90.heap.size 51 3 (.slice dA93 b.ds.length dc93) b.ds.length (b.ds.flatMap cDone) at o_d93
    change w94.ownsRow w90.heap.size 47 4 (.slice rA93 b.rs.length rc93) b.rs.length (b.rs.flatMap cRecord) at o_r93
    change w94.ownsRow w90.heap.size 3 1 (.slice xA93 b.xs.length xc93) b.xs.length (b.xs.flatMap cI) at o_x93
    change w94.ownsRow w90.heap.size 3 1 (.slice qA93 b.qs.length qc93) b.qs.length (b.qs.flatMap cI) at o_q93
    have m_p93_x93 := ma93
    have m_p93_q93 := mb93
    have m_x93_q93 := mc93
    have d_p93_q6 := own_ne_box o_p93 (lt_of_block h_q6)
    replace o_p93 := own_base (base := w.heap.size) o_p93 hB.size
    have d_l93_q6 := own_ne_box o_l93 (lt_of_block h_q6)
    replace o_l93 := own_base (base := w.heap.size) o_l93 hB.size
    have d_o93_q6 := own_ne_box o_o93 (lt_of_block h_q6)
    replace o_o93 := own_base (base := w.heap.size) o_o93 hB.size
    have d_d93_q6 := own_ne_box o_d93 (lt_of_block h_q6)
    replace o_d93 := own_base (base := w.heap.size) o_d93 hB.size
    have d_r93_q6 := own_ne_box o_r93 (lt_of_block h_q6)
    replace o_r93 := own_base (base := w.heap.size) o_r93 hB.size
    have d_x93_q6 := own_ne_box o_x93 (lt_of_block h_q6)
    replace o_x93 := own_base (base := w.heap.size) o_x93 hB.size
    have d_q93_q6 := own_ne_box o_q93 (lt_of_block h_q6)
    replace o_q93 := own_base (base := w.heap.size) o_q93 hB.size
    replace h_q6 := keep_below h_q6 hb93
    replace h_q25 := keep_below h_q25 hb93
    replace o_p23 := own_below o_p23 hb93
    replace o_l23 := own_below o_l23 hb93
    replace o_o23 := own_below o_o23 hb93
    replace o_r23 := own_below o_r23 hb93
    replace o_x23 := own_below o_x23 hb93
    replace o_q23 := own_below o_q23 hb93
    replace o_r84 := own_below o_r84 hb93
    replace hB := hB.trans (hb93.mono hB.size)
    clear hb93
    intro a45 p45
    refine q_eff rfl rfl ?_
    refine g_storeB rfl (p45.k (p44.k s4 rfl) rfl) p45.v Try.sizeOf32 rfl rfl h_q6 rfl ?_
    intro w95 W_w95
    replace h_q6 := W_w95.here
    replace h_q25 := keep_wrote h_q25 W_w95 n_q6_q25
    replace o_p23 := own_wrote o_p23 W_w95 d_p23_q6
    replace o_l23 := own_wrote o_l23 W_w95 d_l23_q6
    replace o_o23 := own_wrote o_o23 W_w95 d_o23_q6
    replace o_r23 := own_wrote o_r23 W_w95 d_r23_q6
    replace o_x23 := own_wrote o_x23 W_w95 d_x23_q6
    replace o_q23 := own_wrote o_q23 W_w95 d_q23_q6
    replace o_r84 := own_wrote o_r84 W_w95 d_r84_q6
    replace o_p93 := own_wrote o_p93 W_w95 d_p93_q6
    replace o_l93 := own_wrote o_l93 W_w95 d_l93_q6
    replace o_o93 := own_wrote o_o93 W_w95 d_o93_q6
    replace o_d93 := own_wrote o_d93 W_w95 d_d93_q6
    replace o_r93 := own_wrote o_r93 W_w95 d_r93_q6
    replace o_x93 := own_wrote o_x93 W_w95 d_x93_q6
    replace o_q93 := own_wrote o_q93 W_w95 d_q93_q6
    replace hB := below_wrote hB hB.size W_w95 g_q6.le
    clear W_w95
    refine q_v p45.s rfl rfl rfl (g_assign rfl rfl ?_)
    intro a46 p46
    have s5 : a46.eval (.tmp 5) = .bool false := p46.v
    refine wpList_nil ?_
    have kc43 := (((Kps.nil a43).u p44).u p45).u p46
    replace s4 := kc43.k s4 rfl
    replace s6 := kc43.k s6 rfl
    replace s8 := kc43.k s8 rfl
    clear kc43
    refine hK92 _ _ ?_
    clear hK92
    refine wp_ret ?_
    try dsimp only [Exit.then, Exit.inBlock]
    refine ret2 p46.s Try.results13 (res_cell s4 h_q6 Try.isAgg32 Try.sizeOf32 rfl) (res_tmp s5) ?_
    have hac := acc_full (b := b) (ok := ok) (ot := ot) (oa := oa) (ob := ob) (by omega)
    have hcc : boOk (accC b ok ot oa ob) = false := by rw [hac]; exact hc91
    rw [bdAcc_no (.inr (.inr hcc))]
    exact ⟨⟨⟨pA93, b.ps.length, pc93⟩, ⟨lA93, b.ls.length, lc93⟩, ⟨oA93, b.os.length, oc93⟩, ⟨dA93, b.ds.length, dc93⟩, ⟨rA93, b.rs.length, rc93⟩, ⟨xA93, b.xs.length, xc93⟩, ⟨qA93, b.qs.length, qc93⟩⟩, rfl, ⟨o_p93, o_l93, o_o93, o_d93, o_r93, o_x93, o_q93, m_p93_x93, m_p93_q93, m_x93_q93⟩, hB⟩
  replace s74 : a43.eval (.tmp 74) = .bool false := (s74).trans (congrArg (fun b => Value.bool (!b)) hc91)
  refine c_false s74 ?_
  refine wp_skip ?_
  refine hK87 _ _ ?_
  clear hK87
  refine wp_seq_k fun K96 hK96 => ?_
  refine wp_region_lit ?_
  refine q_v p43.s rfl rfl rfl (g_loadB rfl s6 Try.isAgg32 Try.sizeOf32 rfl h_q25 ?_)
  intro a44 p44
  refine q_v p44.s rfl rfl rfl (g_move rfl (p44.k s8 rfl) ?_)
  intro a45 p45
  refine q_eff rfl rfl ?_
  refine g_storeB rfl (p45.k (p44.k s4 rfl) rfl) (p45.k p44.v rfl) Try.sizeOf32 rfl rfl h_q6 rfl ?_
  intro w97 W_w97
  replace h_q6 := W_w97.here
  replace o_p23 := own_wrote o_p23 W_w97 d_p23_q6
  replace o_l23 := own_wrote o_l23 W_w97 d_l23_q6
  replace o_o23 := own_wrote o_o23 W_w97 d_o23_q6
  replace o_r23 := own_wrote o_r23 W_w97 d_r23_q6
  replace o_x23 := own_wrote o_x23 W_w97 d_x23_q6
  replace o_q23 := own_wrote o_q23 W_w97 d_q23_q6
  replace o_r84 := own_wrote o_r84 W_w97 d_r84_q6
  replace hB := below_wrote hB hB.size W_w97 g_q6.le
  clear W_w97
  refine q_v p45.s rfl rfl rfl (g_assign rfl p45.v ?_)
  intro a46 p46
  refine wpList_nil ?_
  replace s4 := p46.k (p45.k (p44.k s4 rfl) rfl) rfl
  replace s5 := p46.v
  refine hK96 _ _ ?_
  clear hK96
  refine wp_ret ?_
  try dsimp only [Exit.then, Exit.inBlock]
  refine ret2 p46.s Try.results13 (res_cell s4 h_q6 Try.isAgg32 Try.sizeOf32 rfl) (res_tmp s5) ?_
  have hac := acc_full (b := b) (ok := ok) (ot := ot) (oa := oa) (ob := ob) (by omega)
  have hcc : boOk (accC b ok ot oa ob) = true := by rw [hac]; exact hc91
  rw [bdAcc_yes h1 h2 hcc, hac, decide_eq_false (by omega)]
  exact ⟨⟨⟨pA23, b.ps.length, pc23⟩, ⟨lA23, b.ls.length, lc23⟩, ⟨oA23, b.os.length, oc23⟩, ⟨A_r84, b.ds.length + 1, c_r84⟩, ⟨rA23, b.rs.length, rc23⟩, ⟨xA23, b.xs.length, xc23⟩, ⟨qA23, b.qs.length, qc23⟩⟩, rfl, ⟨o_p23, o_l23, o_o23, o_r84, o_r23, o_x23, o_q23, m_p23_x23, m_p23_q23, m_x23_q23⟩, hB⟩
end Go.Proofs.Ytoccapmoehdohaa
