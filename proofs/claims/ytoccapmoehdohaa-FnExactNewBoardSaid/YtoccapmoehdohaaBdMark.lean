/- Contracts of the statements' helpers on boards: size, copy, equality of equal ones, marks. No condition. -/
import Derived.Test.YtoccapmoehdohaaBdLaw
import Derived.Test.YtoccapmoehdohaaRecMark
import Derived.Test.YtoccapmoehdohaaFlowPart
import Derived.Test.YtoccapmoehdohaaFlowQ
import Derived.Test.YtoccapmoehdohaaFlowTxt
namespace Go.Proofs.Ytoccapmoehdohaa
open Go.RowKit
set_option linter.unusedSimpArgs false
set_option linter.unusedVariables false

theorem eqIntS_same (A B : Option Addr) (n m c d : Nat) (zs : List Int) (w : World) (hn : zs.length = n) (hm : zs.length = m) (hb : n ≤ 1048577) (hr : Rd w 1 A n (zs.flatMap cI)) (hs : Rd w 1 B m (zs.flatMap cI)) :
    Calls Try.prog 65 #[.slice A n c, .slice B m d] w fun e w' => e = .returned (.bool true) ∧ Below w.heap.size w w' :=
  (eqIntS_any A B n m c d zs zs w hn hm (by omega) (by omega) hr hs).mono fun _ _ ⟨he, hb⟩ => ⟨by rw [he, decide_eq_true rfl], hb⟩
theorem g_neqT {P : Program} {o : Oper} {ρ : Operand → Value} {w : World} {K : Value → World → Prop} {x y : Operand} {T T' : TypeId} {b : Bool} (ho : o.op = .binOp .neq T x y T') (ht : P.underlying T = some .bool) (hx : ρ x = .bool b) (hy : ρ y = .bool b) (h : K (.bool false) w) : goesR P o ρ w K := by
  have hr := fun w => run_neq_bool (P := P) (w := w) T b b ht
  unfold goesR execOp
  simp only [ho, hx, hy]
  go_simp
  simpa [hr] using h
/-- An argument's rows can be read. -/
structure RdT (w : World) (size : Nat) (s : Sl) (flat : List Value) (len : Nat) : Prop where
  rd : Rd w size s.A s.n flat
  len : len = s.n
theorem RdT.below {w w' : World} {size len : Nat} {s : Sl} {flat : List Value} (h : RdT w size s flat len) (hb : Below w.heap.size w w') : RdT w' size s flat len := ⟨h.rd.below hb, h.len⟩
structure RdL (w : World) (S : BSl) (b : EBoard) : Prop where
  p : RdT w 1 S.p (b.ps.flatMap cI) b.ps.length
  l : RdT w 3 S.l (b.ls.flatMap cLimit) b.ls.length
  o : RdT w 5 S.o (b.os.flatMap cWaiting) b.os.length
  d : RdT w 3 S.d (b.ds.flatMap cDone) b.ds.length
  r : RdT w 4 S.r (b.rs.flatMap cRecord) b.rs.length
  x : RdT w 1 S.x (b.xs.flatMap cI) b.xs.length
  q : RdT w 1 S.q (b.qs.flatMap cI) b.qs.length
theorem RdL.below {w w' : World} {S : BSl} {b : EBoard} (h : RdL w S b) (hb : Below w.heap.size w w') : RdL w' S b := ⟨h.p.below hb, h.l.below hb, h.o.below hb, h.d.below hb, h.r.below hb, h.x.below hb, h.q.below hb⟩
/-- The board's rows are not too large for the machine. -/
structure BdL (S : BSl) : Prop where
  p : S.p.n ≤ maxLen
  l : S.l.n ≤ maxLen
  o : S.o.n ≤ maxLen
  d : S.d.n ≤ maxLen
  r : S.r.n ≤ maxLen
  x : S.x.n ≤ maxLen
  q : S.q.n ≤ maxLen
def NotB (S : BSl) (q : Nat) : Prop := S.p.A.map (·.block) ≠ some q ∧ S.l.A.map (·.block) ≠ some q ∧ S.o.A.map (·.block) ≠ some q ∧ S.d.A.map (·.block) ≠ some q ∧ S.r.A.map (·.block) ≠ some q ∧ S.x.A.map (·.block) ≠ some q ∧ S.q.A.map (·.block) ≠ some q
/-- Only the rows at S were changed; there may be new blocks. -/
structure ChgB (w w' : World) (S : BSl) : Prop where
  os : w'.os = w.os
  tape : w'.tape = w.tape
  output : w'.output = w.output
  size : w.heap.size ≤ w'.heap.size
  block : ∀ q, q < w.heap.size → NotB S q → w'.heap[q]? = w.heap[q]?
theorem ChgB.refl (w : World) (S : BSl) : ChgB w w S := ⟨rfl, rfl, rfl, Nat.le_refl _, fun _ _ _ => rfl⟩
theorem ChgB.below {w w1 w2 : World} {S : BSl} (h : ChgB w w1 S) (hb : Below w1.heap.size w1 w2) : ChgB w w2 S :=
  ⟨hb.os.trans h.os, hb.tape.trans h.tape, hb.output.trans h.output, Nat.le_trans h.size hb.size, fun q hq hn => (hb.block q (by have := h.size; omega)).trans (h.block q hq hn)⟩
theorem ChgB.row {w w1 w2 : World} {S : BSl} {A : Option Addr} (h : ChgB w w1 S) (hg : w1.grownBy w2 (A.map (·.block))) (hA : ∀ q, NotB S q → A.map (·.block) ≠ some q) : ChgB w w2 S :=
  ⟨hg.os.trans h.os, hg.tape.trans h.tape, hg.output.trans h.output, Nat.le_trans h.size hg.size, fun q hq hn => (hg.block q (by have := h.size; omega) (fun e => hA q hn e.symm)).trans (h.block q hq hn)⟩
def mkN (b : EBoard) : Int := ((((((((b.ps.length : Nat) : Int) + 3 * ((b.ls.length : Nat) : Int)) + 5 * ((b.os.length : Nat) : Int)) + 3 * ((b.ds.length : Nat) : Int)) + 4 * ((b.rs.length : Nat) : Int)) + ((b.xs.length : Nat) : Int)) + ((b.qs.length : Nat) : Int))
theorem mkN_0 (b : EBoard) : 0 ≤ mkN b := by unfold mkN; omega
/-- The marked board. -/
def mkB (k : Int) (b : EBoard) : EBoard :=
  { b with
    ps := marksI k b.ps.length
    ls := marksLimit (k + ((b.ps.length : Nat) : Int)) b.ls.length
    os := marksWaiting ((k + ((b.ps.length : Nat) : Int)) + 3 * ((b.ls.length : Nat) : Int)) b.os.length
    ds := marksDone (((k + ((b.ps.length : Nat) : Int)) + 3 * ((b.ls.length : Nat) : Int)) + 5 * ((b.os.length : Nat) : Int)) b.ds.length
    rs := marksRecord ((((k + ((b.ps.length : Nat) : Int)) + 3 * ((b.ls.length : Nat) : Int)) + 5 * ((b.os.length : Nat) : Int)) + 3 * ((b.ds.length : Nat) : Int)) b.rs.length
    xs := marksI (((((k + ((b.ps.length : Nat) : Int)) + 3 * ((b.ls.length : Nat) : Int)) + 5 * ((b.os.length : Nat) : Int)) + 3 * ((b.ds.length : Nat) : Int)) + 4 * ((b.rs.length : Nat) : Int)) b.xs.length
    qs := marksI ((((((k + ((b.ps.length : Nat) : Int)) + 3 * ((b.ls.length : Nat) : Int)) + 5 * ((b.os.length : Nat) : Int)) + 3 * ((b.ds.length : Nat) : Int)) + 4 * ((b.rs.length : Nat) : Int)) + ((b.xs.length : Nat) : Int)) b.qs.length }
set_option maxRecDepth 100000 in
set_option maxHeartbeats 4000000 in
theorem szBoard_any {S : BSl} {b : EBoard} (left : Int) (w : World) (hR : RdL w S b) (hL : BdL S) (hTx : ∀ z ∈ b.rs, Txt z.f3) (h0 : 0 ≤ left) (h1 : left ≤ 1048576) :
    Calls Try.prog 22 #[bdV S b, .int .i64 left] w fun e w' => ∃ q : Int, e = .returned (.int .i64 q) ∧ -1 ≤ q ∧ (0 ≤ q → BdW b) ∧ Below w.heap.size w w' := by
  obtain ⟨hL1, hL2, hL3, hL4, hL5, hL6, hL7⟩ := hL
  obtain ⟨⟨pA, pn, pc⟩, ⟨lA, ln, lc⟩, ⟨oA, on, oc⟩, ⟨dA, dn, dc⟩, ⟨rA, rn, rc⟩, ⟨xA, xn, xc⟩, ⟨qA, qn, qc⟩⟩ := S
  obtain ⟨⟨hr_p, hl_p⟩, ⟨hr_l, hl_l⟩, ⟨hr_o, hl_o⟩, ⟨hr_d, hl_d⟩, ⟨hr_r, hl_r⟩, ⟨hr_x, hl_x⟩, ⟨hr_q, hl_q⟩⟩ := hR
  change b.ps.length = pn at hl_p
  subst pn
  change Rd _ 1 pA b.ps.length (b.ps.flatMap cI) at hr_p
  change b.ls.length = ln at hl_l
  subst ln
  change Rd _ 3 lA b.ls.length (b.ls.flatMap cLimit) at hr_l
  change b.os.length = on at hl_o
  subst on
  change Rd _ 5 oA b.os.length (b.os.flatMap cWaiting) at hr_o
  change b.ds.length = dn at hl_d
  subst dn
  change Rd _ 3 dA b.ds.length (b.ds.flatMap cDone) at hr_d
  change b.rs.length = rn at hl_r
  subst rn
  change Rd _ 4 rA b.rs.length (b.rs.flatMap cRecord) at hr_r
  change b.xs.length = xn at hl_x
  subst xn
  change Rd _ 1 xA b.xs.length (b.xs.flatMap cI) at hr_x
  change b.qs.length = qn at hl_q
  subst qn
  change Rd _ 1 qA b.qs.length (b.qs.flatMap cI) at hr_q
  change b.ps.length ≤ maxLen at hL1
  change b.ls.length ≤ maxLen at hL2
  change b.os.length ≤ maxLen at hL3
  change b.ds.length ≤ maxLen at hL4
  change b.rs.length ≤ maxLen at hL5
  change b.xs.length ≤ maxLen at hL6
  change b.qs.length ≤ maxLen at hL7
  unfold maxLen at hL1 hL2 hL3 hL4 hL5 hL6 hL7
  refine enter 42 Try.func22 rfl rfl (Nat.le_of_ble_eq_true rfl) ?_
  intro a0 hs hargs
  have s0 : a0.eval (.tmp 0) = .agg #[.int .i64 b.clk, .slice pA b.ps.length pc, .bool b.safe, .slice lA b.ls.length lc, .slice oA b.os.length oc, .slice dA b.ds.length dc, .int .i64 b.room, .slice rA b.rs.length rc, .slice xA b.xs.length xc, .int .i64 b.made, .int .i64 b.taken, .slice qA b.qs.length qc] := hargs 0 _ rfl
  have s1 : a0.eval (.tmp 1) = .int .i64 left := hargs 1 _ rfl
  clear hargs
  have hB : Below w.heap.size w w := Below.refl _ _
  refine wp_seq_k fun K1 hK1 => ?_
  refine wp_region_lit ?_
  refine q_v hs rfl rfl rfl ?_
  refine g_box rfl s0 rfl ?_
  intro q2 w3 N_q2
  replace hB := below_new hB hB.size N_q2
  have h_q2 := N_q2.here
  clear N_q2
  intro a1 p1
  refine q_v p1.s rfl rfl rfl (g_assign rfl rfl ?_)
  intro a2 p2
  have s4 : a2.eval (.tmp 4) = .int .i64 0 := p2.v
  refine wpList_nil ?_
  replace s1 := p2.k (p1.k s1 rfl) rfl
  replace s2 := p2.k p1.v rfl
  refine hK1 _ _ ?_
  clear hK1
  refine wp_seq_k fun K4 hK4 => ?_
  refine wp_region_lit ?_
  refine q_v p2.s rfl rfl rfl (g_field (r := 1) rfl s2 Try.underlying62 rfl (fun w => Try.sizeOf24 w) rfl rfl ?_)
  intro a3 p3
  refine q_v p3.s rfl rfl rfl (g_load rfl p3.v Try.isAgg24 (box_cell h_q2 rfl) ?_)
  intro a4 p4
  refine q_v p4.s rfl rfl rfl (g_move rfl (p4.k (p3.k s1 rfl) rfl) ?_)
  intro a5 p5
  refine q_v p5.s rfl rfl rfl ?_
  refine g_call rfl rfl Try.call54 (arr2 (p5.k p4.v rfl) p5.v) ?_
  refine (szIntS_any _ _ _ _ _ (by omega) (by omega) (by omega)).mono ?_
  rintro e w' ⟨q5, rfl, hq0_5, hq1_5, hq2_5, rfl⟩
  refine ⟨_, rfl, ?_⟩
  intro a6 p6
  refine q_v p6.s rfl rfl rfl (g_assign rfl p6.v ?_)
  intro a7 p7
  refine wpList_nil ?_
  have kc2 := (((((Kps.nil a2).u p3).u p4).u p5).u p6).u p7
  replace s1 := p7.v
  replace s2 := kc2.k s2 rfl
  replace s4 := kc2.k s4 rfl
  clear kc2
  refine hK4 _ _ ?_
  clear hK4
  refine wp_seq_k fun K6 hK6 => ?_
  refine wp_seq_k fun K7 hK7 => ?_
  refine wp_region_lit ?_
  refine q_v p7.s rfl rfl rfl (g_move rfl s1 ?_)
  intro a8 p8
  refine q_v p8.s rfl rfl rfl (g_lss rfl p8.v rfl ?_)
  intro a9 p9
  refine wpList_nil ?_
  replace s1 := p9.k (p8.k s1 rfl) rfl
  replace s2 := p9.k (p8.k s2 rfl) rfl
  replace s4 := p9.k (p8.k s4 rfl) rfl
  replace s10 := p9.v
  refine hK7 _ _ ?_
  clear hK7
  by_cases hc8 : q5 < 0
  · replace s10 : a9.eval (.tmp 10) = .bool true := (s10).trans (congrArg Value.bool (decide_eq_true hc8))
    refine c_true s10 ?_
    refine wp_seq_k fun K9 hK9 => ?_
    refine wp_region_lit ?_
    refine q_v p9.s rfl rfl rfl (g_assign rfl rfl ?_)
    intro a10 p10
    have s4 : a10.eval (.tmp 4) = .int .i64 (-1) := p10.v
    refine wpList_nil ?_
    replace s1 := p10.k s1 rfl
    replace s2 := p10.k s2 rfl
    refine hK9 _ _ ?_
    clear hK9
    refine wp_ret ?_
    try dsimp only [Exit.then, Exit.inBlock]
    refine ret1 p10.s Try.results22 (res_tmp s4) ?_
    exact ⟨-1, rfl, by omega, fun h => by omega, hB⟩
  replace s10 : a9.eval (.tmp 10) = .bool false := (s10).trans (congrArg Value.bool (decide_eq_false hc8))
  refine c_false s10 ?_
  refine wp_skip ?_
  refine hK6 _ _ ?_
  clear hK6
  refine wp_seq_k fun K10 hK10 => ?_
  refine wp_region_lit ?_
  refine q_v p9.s rfl rfl rfl (g_field (r := 3) rfl s2 Try.underlying62 rfl (fun w => Try.sizeOf55 w) rfl rfl ?_)
  intro a10 p10
  refine q_v p10.s rfl rfl rfl (g_load rfl p10.v Try.isAgg55 (box_cell h_q2 rfl) ?_)
  intro a11 p11
  refine q_v p11.s rfl rfl rfl (g_move rfl (p11.k (p10.k s1 rfl) rfl) ?_)
  intro a12 p12
  refine q_v p12.s rfl rfl rfl ?_
  refine g_call rfl rfl Try.call26 (arr2 (p12.k p11.v rfl) p12.v) ?_
  refine (szLimitS_any _ _ _ _ _ (by omega) (by omega) (by omega)).mono ?_
  rintro e w' ⟨q11, rfl, hq0_11, hq1_11, hq2_11, rfl⟩
  refine ⟨_, rfl, ?_⟩
  intro a13 p13
  refine q_v p13.s rfl rfl rfl (g_assign rfl p13.v ?_)
  intro a14 p14
  refine wpList_nil ?_
  have kc9 := (((((Kps.nil a9).u p10).u p11).u p12).u p13).u p14
  replace s1 := p14.v
  replace s2 := kc9.k s2 rfl
  replace s4 := kc9.k s4 rfl
  clear kc9
  refine hK10 _ _ ?_
  clear hK10
  refine wp_seq_k fun K12 hK12 => ?_
  refine wp_seq_k fun K13 hK13 => ?_
  refine wp_region_lit ?_
  refine q_v p14.s rfl rfl rfl (g_move rfl s1 ?_)
  intro a15 p15
  refine q_v p15.s rfl rfl rfl (g_lss rfl p15.v rfl ?_)
  intro a16 p16
  refine wpList_nil ?_
  replace s1 := p16.k (p15.k s1 rfl) rfl
  replace s2 := p16.k (p15.k s2 rfl) rfl
  replace s4 := p16.k (p15.k s4 rfl) rfl
  replace s16 := p16.v
  refine hK13 _ _ ?_
  clear hK13
  by_cases hc14 : q11 < 0
  · replace s16 : a16.eval (.tmp 16) = .bool true := (s16).trans (congrArg Value.bool (decide_eq_true hc14))
    refine c_true s16 ?_
    refine wp_seq_k fun K15 hK15 => ?_
    refine wp_region_lit ?_
    refine q_v p16.s rfl rfl rfl (g_assign rfl rfl ?_)
    intro a17 p17
    have s4 : a17.eval (.tmp 4) = .int .i64 (-1) := p17.v
    refine wpList_nil ?_
    replace s1 := p17.k s1 rfl
    replace s2 := p17.k s2 rfl
    refine hK15 _ _ ?_
    clear hK15
    refine wp_ret ?_
    try dsimp only [Exit.then, Exit.inBlock]
    refine ret1 p17.s Try.results22 (res_tmp s4) ?_
    exact ⟨-1, rfl, by omega, fun h => by omega, hB⟩
  replace s16 : a16.eval (.tmp 16) = .bool false := (s16).trans (congrArg Value.bool (decide_eq_false hc14))
  refine c_false s16 ?_
  refine wp_skip ?_
  refine hK12 _ _ ?_
  clear hK12
  refine wp_seq_k fun K16 hK16 => ?_
  refine wp_region_lit ?_
  refine q_v p16.s rfl rfl rfl (g_field (r := 4) rfl s2 Try.underlying62 rfl (fun w => Try.sizeOf56 w) rfl rfl ?_)
  intro a17 p17
  refine q_v p17.s rfl rfl rfl (g_load rfl p17.v Try.isAgg56 (box_cell h_q2 rfl) ?_)
  intro a18 p18
  refine q_v p18.s rfl rfl rfl (g_move rfl (p18.k (p17.k s1 rfl) rfl) ?_)
  intro a19 p19
  refine q_v p19.s rfl rfl rfl ?_
  refine g_call rfl rfl Try.call55 (arr2 (p19.k p18.v rfl) p19.v) ?_
  refine (szWaitingS_any _ _ _ _ _ (by omega) (by omega) (by omega)).mono ?_
  rintro e w' ⟨q17, rfl, hq0_17, hq1_17, hq2_17, rfl⟩
  refine ⟨_, rfl, ?_⟩
  intro a20 p20
  refine q_v p20.s rfl rfl rfl (g_assign rfl p20.v ?_)
  intro a21 p21
  refine wpList_nil ?_
  have kc16 := (((((Kps.nil a16).u p17).u p18).u p19).u p20).u p21
  replace s1 := p21.v
  replace s2 := kc16.k s2 rfl
  replace s4 := kc16.k s4 rfl
  clear kc16
  refine hK16 _ _ ?_
  clear hK16
  refine wp_seq_k fun K18 hK18 => ?_
  refine wp_seq_k fun K19 hK19 => ?_
  refine wp_region_lit ?_
  refine q_v p21.s rfl rfl rfl (g_move rfl s1 ?_)
  intro a22 p22
  refine q_v p22.s rfl rfl rfl (g_lss rfl p22.v rfl ?_)
  intro a23 p23
  refine wpList_nil ?_
  replace s1 := p23.k (p22.k s1 rfl) rfl
  replace s2 := p23.k (p22.k s2 rfl) rfl
  replace s4 := p23.k (p22.k s4 rfl) rfl
  replace s22 := p23.v
  refine hK19 _ _ ?_
  clear hK19
  by_cases hc20 : q17 < 0
  · replace s22 : a23.eval (.tmp 22) = .bool true := (s22).trans (congrArg Value.bool (decide_eq_true hc20))
    refine c_true s22 ?_
    refine wp_seq_k fun K21 hK21 => ?_
    refine wp_region_lit ?_
    refine q_v p23.s rfl rfl rfl (g_assign rfl rfl ?_)
    intro a24 p24
    have s4 : a24.eval (.tmp 4) = .int .i64 (-1) := p24.v
    refine wpList_nil ?_
    replace s1 := p24.k s1 rfl
    replace s2 := p24.k s2 rfl
    refine hK21 _ _ ?_
    clear hK21
    refine wp_ret ?_
    try dsimp only [Exit.then, Exit.inBlock]
    refine ret1 p24.s Try.results22 (res_tmp s4) ?_
    exact ⟨-1, rfl, by omega, fun h => by omega, hB⟩
  replace s22 : a23.eval (.tmp 22) = .bool false := (s22).trans (congrArg Value.bool (decide_eq_false hc20))
  refine c_false s22 ?_
  refine wp_skip ?_
  refine hK18 _ _ ?_
  clear hK18
  refine wp_seq_k fun K22 hK22 => ?_
  refine wp_region_lit ?_
  refine q_v p23.s rfl rfl rfl (g_field (r := 5) rfl s2 Try.underlying62 rfl (fun w => Try.sizeOf57 w) rfl rfl ?_)
  intro a24 p24
  refine q_v p24.s rfl rfl rfl (g_load rfl p24.v Try.isAgg57 (box_cell h_q2 rfl) ?_)
  intro a25 p25
  refine q_v p25.s rfl rfl rfl (g_move rfl (p25.k (p24.k s1 rfl) rfl) ?_)
  intro a26 p26
  refine q_v p26.s rfl rfl rfl ?_
  refine g_call rfl rfl Try.call56 (arr2 (p26.k p25.v rfl) p26.v) ?_
  refine (szDoneS_any _ _ _ _ _ (by omega) (by omega) (by omega)).mono ?_
  rintro e w' ⟨q23, rfl, hq0_23, hq1_23, hq2_23, rfl⟩
  refine ⟨_, rfl, ?_⟩
  intro a27 p27
  refine q_v p27.s rfl rfl rfl (g_assign rfl p27.v ?_)
  intro a28 p28
  refine wpList_nil ?_
  have kc23 := (((((Kps.nil a23).u p24).u p25).u p26).u p27).u p28
  replace s1 := p28.v
  replace s2 := kc23.k s2 rfl
  replace s4 := kc23.k s4 rfl
  clear kc23
  refine hK22 _ _ ?_
  clear hK22
  refine wp_seq_k fun K24 hK24 => ?_
  refine wp_seq_k fun K25 hK25 => ?_
  refine wp_region_lit ?_
  refine q_v p28.s rfl rfl rfl (g_move rfl s1 ?_)
  intro a29 p29
  refine q_v p29.s rfl rfl rfl (g_lss rfl p29.v rfl ?_)
  intro a30 p30
  refine wpList_nil ?_
  replace s1 := p30.k (p29.k s1 rfl) rfl
  replace s2 := p30.k (p29.k s2 rfl) rfl
  replace s4 := p30.k (p29.k s4 rfl) rfl
  replace s28 := p30.v
  refine hK25 _ _ ?_
  clear hK25
  by_cases hc26 : q23 < 0
  · replace s28 : a30.eval (.tmp 28) = .bool true := (s28).trans (congrArg Value.bool (decide_eq_true hc26))
    refine c_true s28 ?_
    refine wp_seq_k fun K27 hK27 => ?_
    refine wp_region_lit ?_
    refine q_v p30.s rfl rfl rfl (g_assign rfl rfl ?_)
    intro a31 p31
    have s4 : a31.eval (.tmp 4) = .int .i64 (-1) := p31.v
    refine wpList_nil ?_
    replace s1 := p31.k s1 rfl
    replace s2 := p31.k s2 rfl
    refine hK27 _ _ ?_
    clear hK27
    refine wp_ret ?_
    try dsimp only [Exit.then, Exit.inBlock]
    refine ret1 p31.s Try.results22 (res_tmp s4) ?_
    exact ⟨-1, rfl, by omega, fun h => by omega, hB⟩
  replace s28 : a30.eval (.tmp 28) = .bool false := (s28).trans (congrArg Value.bool (decide_eq_false hc26))
  refine c_false s28 ?_
  refine wp_skip ?_
  refine hK24 _ _ ?_
  clear hK24
  refine wp_seq_k fun K28 hK28 => ?_
  refine wp_region_lit ?_
  refine q_v p30.s rfl rfl rfl (g_field (r := 6) rfl s2 Try.underlying62 rfl (fun w => Try.sizeOf60 w) rfl rfl ?_)
  intro a31 p31
  refine q_v p31.s rfl rfl rfl (g_loadA (l := [.int .i64 b.room, .slice rA b.rs.length rc, .slice xA b.xs.length xc]) rfl p31.v Try.isAgg60 Try.sizeOf60 rfl (box_part h_q2 rfl) ?_)
  intro a32 p32
  refine q_v p32.s rfl rfl rfl (g_move rfl (p32.k (p31.k s1 rfl) rfl) ?_)
  intro a33 p33
  refine q_v p33.s rfl rfl rfl ?_
  refine g_call rfl rfl Try.call57 (arr2 (p33.k p32.v rfl) p33.v) ?_
  refine (szRecorder_any _ _ _ _ _ _ _ b.rs _ _ rfl (by omega) (by omega) (by omega) (by omega) hTx (hr_r.below hB)).mono ?_
  rintro e w30 ⟨q29, rfl, hq0_29, hq1_29, hq2_29, hb29⟩
  refine ⟨_, rfl, ?_⟩
  replace h_q2 := keep_below h_q2 hb29
  replace hB := hB.trans (hb29.mono hB.size)
  clear hb29
  intro a34 p34
  refine q_v p34.s rfl rfl rfl (g_assign rfl p34.v ?_)
  intro a35 p35
  refine wpList_nil ?_
  have kc30 := (((((Kps.nil a30).u p31).u p32).u p33).u p34).u p35
  replace s1 := p35.v
  replace s2 := kc30.k s2 rfl
  replace s4 := kc30.k s4 rfl
  clear kc30
  refine hK28 _ _ ?_
  clear hK28
  refine wp_seq_k fun K31 hK31 => ?_
  refine wp_seq_k fun K32 hK32 => ?_
  refine wp_region_lit ?_
  refine q_v p35.s rfl rfl rfl (g_move rfl s1 ?_)
  intro a36 p36
  refine q_v p36.s rfl rfl rfl (g_lss rfl p36.v rfl ?_)
  intro a37 p37
  refine wpList_nil ?_
  replace s1 := p37.k (p36.k s1 rfl) rfl
  replace s2 := p37.k (p36.k s2 rfl) rfl
  replace s4 := p37.k (p36.k s4 rfl) rfl
  replace s34 := p37.v
  refine hK32 _ _ ?_
  clear hK32
  by_cases hc33 : q29 < 0
  · replace s34 : a37.eval (.tmp 34) = .bool true := (s34).trans (congrArg Value.bool (decide_eq_true hc33))
    refine c_true s34 ?_
    refine wp_seq_k fun K34 hK34 => ?_
    refine wp_region_lit ?_
    refine q_v p37.s rfl rfl rfl (g_assign rfl rfl ?_)
    intro a38 p38
    have s4 : a38.eval (.tmp 4) = .int .i64 (-1) := p38.v
    refine wpList_nil ?_
    replace s1 := p38.k s1 rfl
    replace s2 := p38.k s2 rfl
    refine hK34 _ _ ?_
    clear hK34
    refine wp_ret ?_
    try dsimp only [Exit.then, Exit.inBlock]
    refine ret1 p38.s Try.results22 (res_tmp s4) ?_
    exact ⟨-1, rfl, by omega, fun h => by omega, hB⟩
  replace s34 : a37.eval (.tmp 34) = .bool false := (s34).trans (congrArg Value.bool (decide_eq_false hc33))
  refine c_false s34 ?_
  refine wp_skip ?_
  refine hK31 _ _ ?_
  clear hK31
  refine wp_seq_k fun K35 hK35 => ?_
  refine wp_region_lit ?_
  refine q_v p37.s rfl rfl rfl (g_field (r := 11) rfl s2 Try.underlying62 rfl (fun w => Try.sizeOf24 w) rfl rfl ?_)
  intro a38 p38
  refine q_v p38.s rfl rfl rfl (g_load rfl p38.v Try.isAgg24 (box_cell h_q2 rfl) ?_)
  intro a39 p39
  refine q_v p39.s rfl rfl rfl (g_move rfl (p39.k (p38.k s1 rfl) rfl) ?_)
  intro a40 p40
  refine q_v p40.s rfl rfl rfl ?_
  refine g_call rfl rfl Try.call54 (arr2 (p40.k p39.v rfl) p40.v) ?_
  refine (szIntS_any _ _ _ _ _ (by omega) (by omega) (by omega)).mono ?_
  rintro e w' ⟨q36, rfl, hq0_36, hq1_36, hq2_36, rfl⟩
  refine ⟨_, rfl, ?_⟩
  intro a41 p41
  refine q_v p41.s rfl rfl rfl (g_assign rfl p41.v ?_)
  intro a42 p42
  refine wpList_nil ?_
  replace s1 := p42.v
  replace s4 := p42.k (p41.k (p40.k (p39.k (p38.k s4 rfl) rfl) rfl) rfl) rfl
  refine hK35 _ _ ?_
  clear hK35
  refine wp_seq_k fun K37 hK37 => ?_
  refine wp_seq_k fun K38 hK38 => ?_
  refine wp_region_lit ?_
  refine q_v p42.s rfl rfl rfl (g_move rfl s1 ?_)
  intro a43 p43
  refine q_v p43.s rfl rfl rfl (g_lss rfl p43.v rfl ?_)
  intro a44 p44
  refine wpList_nil ?_
  replace s1 := p44.k (p43.k s1 rfl) rfl
  replace s4 := p44.k (p43.k s4 rfl) rfl
  replace s40 := p44.v
  refine hK38 _ _ ?_
  clear hK38
  by_cases hc39 : q36 < 0
  · replace s40 : a44.eval (.tmp 40) = .bool true := (s40).trans (congrArg Value.bool (decide_eq_true hc39))
    refine c_true s40 ?_
    refine wp_seq_k fun K40 hK40 => ?_
    refine wp_region_lit ?_
    refine q_v p44.s rfl rfl rfl (g_assign rfl rfl ?_)
    intro a45 p45
    have s4 : a45.eval (.tmp 4) = .int .i64 (-1) := p45.v
    refine wpList_nil ?_
    replace s1 := p45.k s1 rfl
    refine hK40 _ _ ?_
    clear hK40
    refine wp_ret ?_
    try dsimp only [Exit.then, Exit.inBlock]
    refine ret1 p45.s Try.results22 (res_tmp s4) ?_
    exact ⟨-1, rfl, by omega, fun h => by omega, hB⟩
  replace s40 : a44.eval (.tmp 40) = .bool false := (s40).trans (congrArg Value.bool (decide_eq_false hc39))
  refine c_false s40 ?_
  refine wp_skip ?_
  refine hK37 _ _ ?_
  clear hK37
  refine wp_seq_k fun K41 hK41 => ?_
  refine wp_region_lit ?_
  refine q_v p44.s rfl rfl rfl (g_move rfl s1 ?_)
  intro a45 p45
  refine q_v p45.s rfl rfl rfl (g_assign rfl p45.v ?_)
  intro a46 p46
  refine wpList_nil ?_
  replace s4 := p46.v
  refine hK41 _ _ ?_
  clear hK41
  refine wp_ret ?_
  try dsimp only [Exit.then, Exit.inBlock]
  refine ret1 p46.s Try.results22 (res_tmp s4) ?_
  exact ⟨_, rfl, by omega, fun h => ⟨hq2_5 (by omega), hq2_11 (by omega), hq2_17 (by omega), hq2_23 (by omega), (hq2_29 (by omega)).1, (hq2_29 (by omega)).2, hq2_36 (by omega), hTx⟩, hB⟩
set_option maxRecDepth 100000 in
set_option maxHeartbeats 4000000 in
theorem toBoard_any {S : BSl} {b : EBoard} (w : World) (hR : RdL w S b) (hW : BdW b) :
    Calls Try.prog 24 #[bdV S b] w fun e w' => ∃ S', e = .returned (bdV S' b) ∧ OwnB w' w.heap.size S' b ∧ Below w.heap.size w w' := by
  obtain ⟨⟨pA, pn, pc⟩, ⟨lA, ln, lc⟩, ⟨oA, on, oc⟩, ⟨dA, dn, dc⟩, ⟨rA, rn, rc⟩, ⟨xA, xn, xc⟩, ⟨qA, qn, qc⟩⟩ := S
  obtain ⟨⟨hr_p, hl_p⟩, ⟨hr_l, hl_l⟩, ⟨hr_o, hl_o⟩, ⟨hr_d, hl_d⟩, ⟨hr_r, hl_r⟩, ⟨hr_x, hl_x⟩, ⟨hr_q, hl_q⟩⟩ := hR
  change b.ps.length = pn at hl_p
  subst pn
  change Rd _ 1 pA b.ps.length (b.ps.flatMap cI) at hr_p
  change b.ls.length = ln at hl_l
  subst ln
  change Rd _ 3 lA b.ls.length (b.ls.flatMap cLimit) at hr_l
  change b.os.length = on at hl_o
  subst on
  change Rd _ 5 oA b.os.length (b.os.flatMap cWaiting) at hr_o
  change b.ds.length = dn at hl_d
  subst dn
  change Rd _ 3 dA b.ds.length (b.ds.flatMap cDone) at hr_d
  change b.rs.length = rn at hl_r
  subst rn
  change Rd _ 4 rA b.rs.length (b.rs.flatMap cRecord) at hr_r
  change b.xs.length = xn at hl_x
  subst xn
  change Rd _ 1 xA b.xs.length (b.xs.flatMap cI) at hr_x
  change b.qs.length = qn at hl_q
  subst qn
  change Rd _ 1 qA b.qs.length (b.qs.flatMap cI) at hr_q
  have hW1 := hW.ps
  have hW2 := hW.ls
  have hW3 := hW.os
  have hW4 := hW.ds
  have hW5 := hW.rs
  have hW6 := hW.xs
  have hW7 := hW.qs
  refine enter 41 Try.func24 rfl rfl (Nat.le_of_ble_eq_true rfl) ?_
  intro a0 hs hargs
  have s0 : a0.eval (.tmp 0) = .agg #[.int .i64 b.clk, .slice pA b.ps.length pc, .bool b.safe, .slice lA b.ls.length lc, .slice oA b.os.length oc, .slice dA b.ds.length dc, .int .i64 b.room, .slice rA b.rs.length rc, .slice xA b.xs.length xc, .int .i64 b.made, .int .i64 b.taken, .slice qA b.qs.length qc] := hargs 0 _ rfl
  clear hargs
  have hB : Below w.heap.size w w := Below.refl _ _
  refine wp_seq_k fun K1 hK1 => ?_
  refine wp_region_lit ?_
  refine q_v hs rfl rfl rfl ?_
  refine g_box rfl s0 rfl ?_
  intro q2 w3 N_q2
  replace hB := below_new hB hB.size N_q2
  have h_q2 := N_q2.here
  clear N_q2
  intro a1 p1
  refine q_v p1.s rfl rfl rfl ?_
  refine g_alloc rfl Try.zeroValue32 rfl ?_
  intro q4 w5 N_q4
  have g_q4 : GeB w.heap.size q4 := ⟨Nat.le_trans hB.size N_q4.lo⟩
  replace h_q2 := keep_below h_q2 N_q4.below
  replace hB := below_new hB hB.size N_q4
  have h_q4 := N_q4.here
  clear N_q4
  intro a2 p2
  refine wpList_nil ?_
  replace s1 := p2.k p1.v rfl
  replace s2 := p2.v
  refine hK1 _ _ ?_
  clear hK1
  refine wp_seq_k fun K6 hK6 => ?_
  refine wp_region_lit ?_
  refine q_v p2.s rfl rfl rfl ?_
  refine g_alloc rfl Try.zeroValue32 rfl ?_
  intro q7 w8 N_q7
  have n_q2_q7 := N_q7.ne ⟨lt_of_block h_q2⟩
  have n_q7_q2 := n_q2_q7.symm
  have n_q4_q7 := N_q7.ne ⟨lt_of_block h_q4⟩
  have n_q7_q4 := n_q4_q7.symm
  have g_q7 : GeB w.heap.size q7 := ⟨Nat.le_trans hB.size N_q7.lo⟩
  replace h_q2 := keep_below h_q2 N_q7.below
  replace h_q4 := keep_below h_q4 N_q7.below
  replace hB := below_new hB hB.size N_q7
  have h_q7 := N_q7.here
  clear N_q7
  intro a3 p3
  refine wpList_nil ?_
  replace s1 := p3.k s1 rfl
  replace s2 := p3.k s2 rfl
  replace s3 := p3.v
  refine hK6 _ _ ?_
  clear hK6
  refine wp_seq_k fun K9 hK9 => ?_
  refine wp_region_lit ?_
  refine q_v p3.s rfl rfl rfl (g_field (r := 0) rfl s1 Try.underlying62 rfl (fun w => Try.sizeOf3 w) rfl rfl ?_)
  intro a4 p4
  refine q_v p4.s rfl rfl rfl (g_load rfl p4.v Try.isAgg3 (box_cell h_q2 rfl) ?_)
  intro a5 p5
  refine q_v p5.s rfl rfl rfl (g_field (r := 0) rfl (p5.k (p4.k s3 rfl) rfl) Try.underlying32 rfl (fun w => Try.sizeOf3 w) rfl rfl ?_)
  intro a6 p6
  refine q_eff rfl rfl ?_
  refine g_store (cs' := #[.int .i64 b.clk, .slice none 0 0, .bool false, .slice none 0 0, .slice none 0 0, .slice none 0 0, .int .i64 0, .slice none 0 0, .slice none 0 0, .int .i64 0, .int .i64 0, .slice none 0 0]) rfl p6.v (p6.k p5.v rfl) Try.sizeOf3 rfl h_q7 (Nat.le_of_ble_eq_true rfl) rfl ?_
  intro w10 W_w10
  replace h_q2 := keep_wrote h_q2 W_w10 n_q7_q2
  replace h_q4 := keep_wrote h_q4 W_w10 n_q7_q4
  replace h_q7 := W_w10.here
  replace hB := below_wrote hB hB.size W_w10 g_q7.le
  clear W_w10
  refine wpList_nil ?_
  have kc3 := (((Kps.nil a3).u p4).u p5).u p6
  replace s1 := kc3.k s1 rfl
  replace s2 := kc3.k s2 rfl
  replace s3 := kc3.k s3 rfl
  clear kc3
  refine hK9 _ _ ?_
  clear hK9
  refine wp_seq_k fun K11 hK11 => ?_
  refine wp_region_lit ?_
  refine q_v p6.s rfl rfl rfl (g_field (r := 1) rfl s1 Try.underlying62 rfl (fun w => Try.sizeOf24 w) rfl rfl ?_)
  intro a7 p7
  refine q_v p7.s rfl rfl rfl (g_load rfl p7.v Try.isAgg24 (box_cell h_q2 rfl) ?_)
  intro a8 p8
  refine q_v p8.s rfl rfl rfl ?_
  refine g_call rfl rfl Try.call61 (arr1 p8.v) ?_
  refine (toIntS_any _ _ _ b.ps _ rfl (by omega) (hr_p.below hB)).mono ?_
  rintro e w13 ⟨g12, rfl, o_x12, hb12⟩
  refine ⟨_, rfl, ?_⟩
  have d_x12_q4 := own_ne_box o_x12 (lt_of_block h_q4)
  have d_x12_q7 := own_ne_box o_x12 (lt_of_block h_q7)
  replace o_x12 := own_base (base := w.heap.size) o_x12 hB.size
  replace h_q2 := keep_below h_q2 hb12
  replace h_q4 := keep_below h_q4 hb12
  replace h_q7 := keep_below h_q7 hb12
  replace hB := hB.trans (hb12.mono hB.size)
  clear hb12
  intro a9 p9
  refine q_v p9.s rfl rfl rfl (g_field (r := 1) rfl (p9.k (p8.k (p7.k s3 rfl) rfl) rfl) Try.underlying32 rfl (fun w => Try.sizeOf24 w) rfl rfl ?_)
  intro a10 p10
  refine q_eff rfl rfl ?_
  refine g_store (cs' := #[.int .i64 b.clk, .slice (some ⟨g12, 0, none⟩) b.ps.length b.ps.length, .bool false, .slice none 0 0, .slice none 0 0, .slice none 0 0, .int .i64 0, .slice none 0 0, .slice none 0 0, .int .i64 0, .int .i64 0, .slice none 0 0]) rfl p10.v (p10.k p9.v rfl) Try.sizeOf24 rfl h_q7 (Nat.le_of_ble_eq_true rfl) rfl ?_
  intro w14 W_w14
  replace h_q2 := keep_wrote h_q2 W_w14 n_q7_q2
  replace h_q4 := keep_wrote h_q4 W_w14 n_q7_q4
  replace h_q7 := W_w14.here
  replace o_x12 := own_wrote o_x12 W_w14 d_x12_q7
  replace hB := below_wrote hB hB.size W_w14 g_q7.le
  clear W_w14
  refine wpList_nil ?_
  have kc6 := ((((Kps.nil a6).u p7).u p8).u p9).u p10
  replace s1 := kc6.k s1 rfl
  replace s2 := kc6.k s2 rfl
  replace s3 := kc6.k s3 rfl
  clear kc6
  refine hK11 _ _ ?_
  clear hK11
  refine wp_seq_k fun K15 hK15 => ?_
  refine wp_region_lit ?_
  refine q_v p10.s rfl rfl rfl (g_field (r := 2) rfl s1 Try.underlying62 rfl (fun w => Try.sizeOf4 w) rfl rfl ?_)
  intro a11 p11
  refine q_v p11.s rfl rfl rfl (g_load rfl p11.v Try.isAgg4 (box_cell h_q2 rfl) ?_)
  intro a12 p12
  refine q_v p12.s rfl rfl rfl (g_field (r := 2) rfl (p12.k (p11.k s3 rfl) rfl) Try.underlying32 rfl (fun w => Try.sizeOf4 w) rfl rfl ?_)
  intro a13 p13
  refine q_eff rfl rfl ?_
  refine g_store (cs' := #[.int .i64 b.clk, .slice (some ⟨g12, 0, none⟩) b.ps.length b.ps.length, .bool b.safe, .slice none 0 0, .slice none 0 0, .slice none 0 0, .int .i64 0, .slice none 0 0, .slice none 0 0, .int .i64 0, .int .i64 0, .slice none 0 0]) rfl p13.v (p13.k p12.v rfl) Try.sizeOf4 rfl h_q7 (Nat.le_of_ble_eq_true rfl) rfl ?_
  intro w16 W_w16
  replace h_q2 := keep_wrote h_q2 W_w16 n_q7_q2
  replace h_q4 := keep_wrote h_q4 W_w16 n_q7_q4
  replace h_q7 := W_w16.here
  replace o_x12 := own_wrote o_x12 W_w16 d_x12_q7
  replace hB := below_wrote hB hB.size W_w16 g_q7.le
  clear W_w16
  refine wpList_nil ?_
  have kc10 := (((Kps.nil a10).u p11).u p12).u p13
  replace s1 := kc10.k s1 rfl
  replace s2 := kc10.k s2 rfl
  replace s3 := kc10.k s3 rfl
  clear kc10
  refine hK15 _ _ ?_
  clear hK15
  refine wp_seq_k fun K17 hK17 => ?_
  refine wp_region_lit ?_
  refine q_v p13.s rfl rfl rfl (g_field (r := 3) rfl s1 Try.underlying62 rfl (fun w => Try.sizeOf55 w) rfl rfl ?_)
  intro a14 p14
  refine q_v p14.s rfl rfl rfl (g_load rfl p14.v Try.isAgg55 (box_cell h_q2 rfl) ?_)
  intro a15 p15
  refine q_v p15.s rfl rfl rfl ?_
  refine g_call rfl rfl Try.call28 (arr1 p15.v) ?_
  refine (toLimitS_any _ _ _ b.ls _ rfl (by omega) (hr_l.below hB)).mono ?_
  rintro e w19 ⟨g18, rfl, o_x18, hb18⟩
  refine ⟨_, rfl, ?_⟩
  have d_x18_q4 := own_ne_box o_x18 (lt_of_block h_q4)
  have d_x18_q7 := own_ne_box o_x18 (lt_of_block h_q7)
  replace o_x18 := own_base (base := w.heap.size) o_x18 hB.size
  replace h_q2 := keep_below h_q2 hb18
  replace h_q4 := keep_below h_q4 hb18
  replace h_q7 := keep_below h_q7 hb18
  replace o_x12 := own_below o_x12 hb18
  replace hB := hB.trans (hb18.mono hB.size)
  clear hb18
  intro a16 p16
  refine q_v p16.s rfl rfl rfl (g_field (r := 3) rfl (p16.k (p15.k (p14.k s3 rfl) rfl) rfl) Try.underlying32 rfl (fun w => Try.sizeOf25 w) rfl rfl ?_)
  intro a17 p17
  refine q_eff rfl rfl ?_
  refine g_store (cs' := #[.int .i64 b.clk, .slice (some ⟨g12, 0, none⟩) b.ps.length b.ps.length, .bool b.safe, .slice (some ⟨g18, 0, none⟩) b.ls.length b.ls.length, .slice none 0 0, .slice none 0 0, .int .i64 0, .slice none 0 0, .slice none 0 0, .int .i64 0, .int .i64 0, .slice none 0 0]) rfl p17.v (p17.k p16.v rfl) Try.sizeOf25 rfl h_q7 (Nat.le_of_ble_eq_true rfl) rfl ?_
  intro w20 W_w20
  replace h_q2 := keep_wrote h_q2 W_w20 n_q7_q2
  replace h_q4 := keep_wrote h_q4 W_w20 n_q7_q4
  replace h_q7 := W_w20.here
  replace o_x12 := own_wrote o_x12 W_w20 d_x12_q7
  replace o_x18 := own_wrote o_x18 W_w20 d_x18_q7
  replace hB := below_wrote hB hB.size W_w20 g_q7.le
  clear W_w20
  refine wpList_nil ?_
  have kc13 := ((((Kps.nil a13).u p14).u p15).u p16).u p17
  replace s1 := kc13.k s1 rfl
  replace s2 := kc13.k s2 rfl
  replace s3 := kc13.k s3 rfl
  clear kc13
  refine hK17 _ _ ?_
  clear hK17
  refine wp_seq_k fun K21 hK21 => ?_
  refine wp_region_lit ?_
  refine q_v p17.s rfl rfl rfl (g_field (r := 4) rfl s1 Try.underlying62 rfl (fun w => Try.sizeOf56 w) rfl rfl ?_)
  intro a18 p18
  refine q_v p18.s rfl rfl rfl (g_load rfl p18.v Try.isAgg56 (box_cell h_q2 rfl) ?_)
  intro a19 p19
  refine q_v p19.s rfl rfl rfl ?_
  refine g_call rfl rfl Try.call62 (arr1 p19.v) ?_
  refine (toWaitingS_any _ _ _ b.os _ rfl (by omega) (hr_o.below hB)).mono ?_
  rintro e w23 ⟨g22, rfl, o_x22, hb22⟩
  refine ⟨_, rfl, ?_⟩
  have d_x22_q4 := own_ne_box o_x22 (lt_of_block h_q4)
  have d_x22_q7 := own_ne_box o_x22 (lt_of_block h_q7)
  replace o_x22 := own_base (base := w.heap.size) o_x22 hB.size
  replace h_q2 := keep_below h_q2 hb22
  replace h_q4 := keep_below h_q4 hb22
  replace h_q7 := keep_below h_q7 hb22
  replace o_x12 := own_below o_x12 hb22
  replace o_x18 := own_below o_x18 hb22
  replace hB := hB.trans (hb22.mono hB.size)
  clear hb22
  intro a20 p20
  refine q_v p20.s rfl rfl rfl (g_field (r := 4) rfl (p20.k (p19.k (p18.k s3 rfl) rfl) rfl) Try.underlying32 rfl (fun w => Try.sizeOf26 w) rfl rfl ?_)
  intro a21 p21
  refine q_eff rfl rfl ?_
  refine g_store (cs' := #[.int .i64 b.clk, .slice (some ⟨g12, 0, none⟩) b.ps.length b.ps.length, .bool b.safe, .slice (some ⟨g18, 0, none⟩) b.ls.length b.ls.length, .slice (some ⟨g22, 0, none⟩) b.os.length b.os.length, .slice none 0 0, .int .i64 0, .slice none 0 0, .slice none 0 0, .int .i64 0, .int .i64 0, .slice none 0 0]) rfl p21.v (p21.k p20.v rfl) Try.sizeOf26 rfl h_q7 (Nat.le_of_ble_eq_true rfl) rfl ?_
  intro w24 W_w24
  replace h_q2 := keep_wrote h_q2 W_w24 n_q7_q2
  replace h_q4 := keep_wrote h_q4 W_w24 n_q7_q4
  replace h_q7 := W_w24.here
  replace o_x12 := own_wrote o_x12 W_w24 d_x12_q7
  replace o_x18 := own_wrote o_x18 W_w24 d_x18_q7
  replace o_x22 := own_wrote o_x22 W_w24 d_x22_q7
  replace hB := below_wrote hB hB.size W_w24 g_q7.le
  clear W_w24
  refine wpList_nil ?_
  have kc17 := ((((Kps.nil a17).u p18).u p19).u p20).u p21
  replace s1 := kc17.k s1 rfl
  replace s2 := kc17.k s2 rfl
  replace s3 := kc17.k s3 rfl
  clear kc17
  refine hK21 _ _ ?_
  clear hK21
  refine wp_seq_k fun K25 hK25 => ?_
  refine wp_region_lit ?_
  refine q_v p21.s rfl rfl rfl (g_field (r := 5) rfl s1 Try.underlying62 rfl (fun w => Try.sizeOf57 w) rfl rfl ?_)
  intro a22 p22
  refine q_v p22.s rfl rfl rfl (g_load rfl p22.v Try.isAgg57 (box_cell h_q2 rfl) ?_)
  intro a23 p23
  refine q_v p23.s rfl rfl rfl ?_
  refine g_call rfl rfl Try.call63 (arr1 p23.v) ?_
  refine (toDoneS_any _ _ _ b.ds _ rfl (by omega) (hr_d.below hB)).mono ?_
  rintro e w27 ⟨g26, rfl, o_x26, hb26⟩
  refine ⟨_, rfl, ?_⟩
  have d_x26_q4 := own_ne_box o_x26 (lt_of_block h_q4)
  have d_x26_q7 := own_ne_box o_x26 (lt_of_block h_q7)
  replace o_x26 := own_base (base := w.heap.size) o_x26 hB.size
  replace h_q2 := keep_below h_q2 hb26
  replace h_q4 := keep_below h_q4 hb26
  replace h_q7 := keep_below h_q7 hb26
  replace o_x12 := own_below o_x12 hb26
  replace o_x18 := own_below o_x18 hb26
  replace o_x22 := own_below o_x22 hb26
  replace hB := hB.trans (hb26.mono hB.size)
  clear hb26
  intro a24 p24
  refine q_v p24.s rfl rfl rfl (g_field (r := 5) rfl (p24.k (p23.k (p22.k s3 rfl) rfl) rfl) Try.underlying32 rfl (fun w => Try.sizeOf27 w) rfl rfl ?_)
  intro a25 p25
  refine q_eff rfl rfl ?_
  refine g_store (cs' := #[.int .i64 b.clk, .slice (some ⟨g12, 0, none⟩) b.ps.length b.ps.length, .bool b.safe, .slice (some ⟨g18, 0, none⟩) b.ls.length b.ls.length, .slice (some ⟨g22, 0, none⟩) b.os.length b.os.length, .slice (some ⟨g26, 0, none⟩) b.ds.length b.ds.length, .int .i64 0, .slice none 0 0, .slice none 0 0, .int .i64 0, .int .i64 0, .slice none 0 0]) rfl p25.v (p25.k p24.v rfl) Try.sizeOf27 rfl h_q7 (Nat.le_of_ble_eq_true rfl) rfl ?_
  intro w28 W_w28
  replace h_q2 := keep_wrote h_q2 W_w28 n_q7_q2
  replace h_q4 := keep_wrote h_q4 W_w28 n_q7_q4
  replace h_q7 := W_w28.here
  replace o_x12 := own_wrote o_x12 W_w28 d_x12_q7
  replace o_x18 := own_wrote o_x18 W_w28 d_x18_q7
  replace o_x22 := own_wrote o_x22 W_w28 d_x22_q7
  replace o_x26 := own_wrote o_x26 W_w28 d_x26_q7
  replace hB := below_wrote hB hB.size W_w28 g_q7.le
  clear W_w28
  refine wpList_nil ?_
  have kc21 := ((((Kps.nil a21).u p22).u p23).u p24).u p25
  replace s1 := kc21.k s1 rfl
  replace s2 := kc21.k s2 rfl
  replace s3 := kc21.k s3 rfl
  clear kc21
  refine hK25 _ _ ?_
  clear hK25
  refine wp_seq_k fun K29 hK29 => ?_
  refine wp_region_lit ?_
  refine q_v p25.s rfl rfl rfl (g_field (r := 6) rfl s1 Try.underlying62 rfl (fun w => Try.sizeOf60 w) rfl rfl ?_)
  intro a26 p26
  refine q_v p26.s rfl rfl rfl (g_loadA (l := [.int .i64 b.room, .slice rA b.rs.length rc, .slice xA b.xs.length xc]) rfl p26.v Try.isAgg60 Try.sizeOf60 rfl (box_part h_q2 rfl) ?_)
  intro a27 p27
  refine q_v p27.s rfl rfl rfl ?_
  refine g_call rfl rfl Try.call64 (arr1 p27.v) ?_
  refine (toRecorder_any _ _ _ _ _ _ _ b.rs b.xs _ rfl (by omega) (hr_r.below hB) rfl (by omega) (hr_x.below hB)).mono ?_
  rintro e w31 ⟨g30, i30, rfl, o_z30, o_y30, _, hb30⟩
  refine ⟨_, rfl, ?_⟩
  have d_z30_q4 := own_ne_box o_z30 (lt_of_block h_q4)
  have d_z30_q7 := own_ne_box o_z30 (lt_of_block h_q7)
  replace o_z30 := own_base (base := w.heap.size) o_z30 hB.size
  have d_y30_q4 := own_ne_box o_y30 (lt_of_block h_q4)
  have d_y30_q7 := own_ne_box o_y30 (lt_of_block h_q7)
  have m_x12_y30 := own_ne_row o_x12 o_y30 (Nat.le_refl _)
  replace o_y30 := own_base (base := w.heap.size) o_y30 hB.size
  replace h_q2 := keep_below h_q2 hb30
  replace h_q4 := keep_below h_q4 hb30
  replace h_q7 := keep_below h_q7 hb30
  replace o_x12 := own_below o_x12 hb30
  replace o_x18 := own_below o_x18 hb30
  replace o_x22 := own_below o_x22 hb30
  replace o_x26 := own_below o_x26 hb30
  replace hB := hB.trans (hb30.mono hB.size)
  clear hb30
  intro a28 p28
  refine q_v p28.s rfl rfl rfl (g_field (r := 6) rfl (p28.k (p27.k (p26.k s3 rfl) rfl) rfl) Try.underlying32 rfl (fun w => Try.sizeOf30 w) rfl rfl ?_)
  intro a29 p29
  refine q_eff rfl rfl ?_
  refine g_storeP (new := #[.int .i64 b.clk, .slice (some ⟨g12, 0, none⟩) b.ps.length b.ps.length, .bool b.safe, .slice (some ⟨g18, 0, none⟩) b.ls.length b.ls.length, .slice (some ⟨g22, 0, none⟩) b.os.length b.os.length, .slice (some ⟨g26, 0, none⟩) b.ds.length b.ds.length, .int .i64 b.room, .slice (some ⟨g30, 0, none⟩) b.rs.length b.rs.length, .slice (some ⟨i30, 0, none⟩) b.xs.length b.xs.length, .int .i64 0, .int .i64 0, .slice none 0 0]) rfl p29.v (p29.k p28.v rfl) Try.sizeOf30 rfl rfl h_q7 (Nat.le_of_ble_eq_true rfl) rfl ?_
  intro w32 W_w32
  replace h_q2 := keep_wrote h_q2 W_w32 n_q7_q2
  replace h_q4 := keep_wrote h_q4 W_w32 n_q7_q4
  replace h_q7 := W_w32.here
  replace o_x12 := own_wrote o_x12 W_w32 d_x12_q7
  replace o_x18 := own_wrote o_x18 W_w32 d_x18_q7
  replace o_x22 := own_wrote o_x22 W_w32 d_x22_q7
  replace o_x26 := own_wrote o_x26 W_w32 d_x26_q7
  replace o_z30 := own_wrote o_z30 W_w32 d_z30_q7
  replace o_y30 := own_wrote o_y30 W_w32 d_y30_q7
  replace hB := below_wrote hB hB.size W_w32 g_q7.le
  clear W_w32
  refine wpList_nil ?_
  have kc25 := ((((Kps.nil a25).u p26).u p27).u p28).u p29
  replace s1 := kc25.k s1 rfl
  replace s2 := kc25.k s2 rfl
  replace s3 := kc25.k s3 rfl
  clear kc25
  refine hK29 _ _ ?_
  clear hK29
  refine wp_seq_k fun K33 hK33 => ?_
  refine wp_region_lit ?_
  refine q_v p29.s rfl rfl rfl (g_field (r := 9) rfl s1 Try.underlying62 rfl (fun w => Try.sizeOf3 w) rfl rfl ?_)
  intro a30 p30
  refine q_v p30.s rfl rfl rfl (g_load rfl p30.v Try.isAgg3 (box_cell h_q2 rfl) ?_)
  intro a31 p31
  refine q_v p31.s rfl rfl rfl (g_field (r := 9) rfl (p31.k (p30.k s3 rfl) rfl) Try.underlying32 rfl (fun w => Try.sizeOf3 w) rfl rfl ?_)
  intro a32 p32
  refine q_eff rfl rfl ?_
  refine g_store (cs' := #[.int .i64 b.clk, .slice (some ⟨g12, 0, none⟩) b.ps.length b.ps.length, .bool b.safe, .slice (some ⟨g18, 0, none⟩) b.ls.length b.ls.length, .slice (some ⟨g22, 0, none⟩) b.os.length b.os.length, .slice (some ⟨g26, 0, none⟩) b.ds.length b.ds.length, .int .i64 b.room, .slice (some ⟨g30, 0, none⟩) b.rs.length b.rs.length, .slice (some ⟨i30, 0, none⟩) b.xs.length b.xs.length, .int .i64 b.made, .int .i64 0, .slice none 0 0]) rfl p32.v (p32.k p31.v rfl) Try.sizeOf3 rfl h_q7 (Nat.le_of_ble_eq_true rfl) rfl ?_
  intro w34 W_w34
  replace h_q2 := keep_wrote h_q2 W_w34 n_q7_q2
  replace h_q4 := keep_wrote h_q4 W_w34 n_q7_q4
  replace h_q7 := W_w34.here
  replace o_x12 := own_wrote o_x12 W_w34 d_x12_q7
  replace o_x18 := own_wrote o_x18 W_w34 d_x18_q7
  replace o_x22 := own_wrote o_x22 W_w34 d_x22_q7
  replace o_x26 := own_wrote o_x26 W_w34 d_x26_q7
  replace o_z30 := own_wrote o_z30 W_w34 d_z30_q7
  replace o_y30 := own_wrote o_y30 W_w34 d_y30_q7
  replace hB := below_wrote hB hB.size W_w34 g_q7.le
  clear W_w34
  refine wpList_nil ?_
  have kc29 := (((Kps.nil a29).u p30).u p31).u p32
  replace s1 := kc29.k s1 rfl
  replace s2 := kc29.k s2 rfl
  replace s3 := kc29.k s3 rfl
  clear kc29
  refine hK33 _ _ ?_
  clear hK33
  refine wp_seq_k fun K35 hK35 => ?_
  refine wp_region_lit ?_
  refine q_v p32.s rfl rfl rfl (g_field (r := 10) rfl s1 Try.underlying62 rfl (fun w => Try.sizeOf3 w) rfl rfl ?_)
  intro a33 p33
  refine q_v p33.s rfl rfl rfl (g_load rfl p33.v Try.isAgg3 (box_cell h_q2 rfl) ?_)
  intro a34 p34
  refine q_v p34.s rfl rfl rfl (g_field (r := 10) rfl (p34.k (p33.k s3 rfl) rfl) Try.underlying32 rfl (fun w => Try.sizeOf3 w) rfl rfl ?_)
  intro a35 p35
  refine q_eff rfl rfl ?_
  refine g_store (cs' := #[.int .i64 b.clk, .slice (some ⟨g12, 0, none⟩) b.ps.length b.ps.length, .bool b.safe, .slice (some ⟨g18, 0, none⟩) b.ls.length b.ls.length, .slice (some ⟨g22, 0, none⟩) b.os.length b.os.length, .slice (some ⟨g26, 0, none⟩) b.ds.length b.ds.length, .int .i64 b.room, .slice (some ⟨g30, 0, none⟩) b.rs.length b.rs.length, .slice (some ⟨i30, 0, none⟩) b.xs.length b.xs.length, .int .i64 b.made, .int .i64 b.taken, .slice none 0 0]) rfl p35.v (p35.k p34.v rfl) Try.sizeOf3 rfl h_q7 (Nat.le_of_ble_eq_true rfl) rfl ?_
  intro w36 W_w36
  replace h_q2 := keep_wrote h_q2 W_w36 n_q7_q2
  replace h_q4 := keep_wrote h_q4 W_w36 n_q7_q4
  replace h_q7 := W_w36.here
  replace o_x12 := own_wrote o_x12 W_w36 d_x12_q7
  replace o_x18 := own_wrote o_x18 W_w36 d_x18_q7
  replace o_x22 := own_wrote o_x22 W_w36 d_x22_q7
  replace o_x26 := own_wrote o_x26 W_w36 d_x26_q7
  replace o_z30 := own_wrote o_z30 W_w36 d_z30_q7
  replace o_y30 := own_wrote o_y30 W_w36 d_y30_q7
  replace hB := below_wrote hB hB.size W_w36 g_q7.le
  clear W_w36
  refine wpList_nil ?_
  have kc32 := (((Kps.nil a32).u p33).u p34).u p35
  replace s1 := kc32.k s1 rfl
  replace s2 := kc32.k s2 rfl
  replace s3 := kc32.k s3 rfl
  clear kc32
  refine hK35 _ _ ?_
  clear hK35
  refine wp_seq_k fun K37 hK37 => ?_
  refine wp_region_lit ?_
  refine q_v p35.s rfl rfl rfl (g_field (r := 11) rfl s1 Try.underlying62 rfl (fun w => Try.sizeOf24 w) rfl rfl ?_)
  intro a36 p36
  refine q_v p36.s rfl rfl rfl (g_load rfl p36.v Try.isAgg24 (box_cell h_q2 rfl) ?_)
  intro a37 p37
  refine q_v p37.s rfl rfl rfl ?_
  refine g_call rfl rfl Try.call61 (arr1 p37.v) ?_
  refine (toIntS_any _ _ _ b.qs _ rfl (by omega) (hr_q.below hB)).mono ?_
  rintro e w39 ⟨g38, rfl, o_x38, hb38⟩
  refine ⟨_, rfl, ?_⟩
  have d_x38_q4 := own_ne_box o_x38 (lt_of_block h_q4)
  have d_x38_q7 := own_ne_box o_x38 (lt_of_block h_q7)
  have m_x12_x38 := own_ne_row o_x12 o_x38 (Nat.le_refl _)
  have m_y30_x38 := own_ne_row o_y30 o_x38 (Nat.le_refl _)
  replace o_x38 := own_base (base := w.heap.size) o_x38 hB.size
  replace h_q4 := keep_below h_q4 hb38
  replace h_q7 := keep_below h_q7 hb38
  replace o_x12 := own_below o_x12 hb38
  replace o_x18 := own_below o_x18 hb38
  replace o_x22 := own_below o_x22 hb38
  replace o_x26 := own_below o_x26 hb38
  replace o_z30 := own_below o_z30 hb38
  replace o_y30 := own_below o_y30 hb38
  replace hB := hB.trans (hb38.mono hB.size)
  clear hb38
  intro a38 p38
  refine q_v p38.s rfl rfl rfl (g_field (r := 11) rfl (p38.k (p37.k (p36.k s3 rfl) rfl) rfl) Try.underlying32 rfl (fun w => Try.sizeOf24 w) rfl rfl ?_)
  intro a39 p39
  refine q_eff rfl rfl ?_
  refine g_store (cs' := #[.int .i64 b.clk, .slice (some ⟨g12, 0, none⟩) b.ps.length b.ps.length, .bool b.safe, .slice (some ⟨g18, 0, none⟩) b.ls.length b.ls.length, .slice (some ⟨g22, 0, none⟩) b.os.length b.os.length, .slice (some ⟨g26, 0, none⟩) b.ds.length b.ds.length, .int .i64 b.room, .slice (some ⟨g30, 0, none⟩) b.rs.length b.rs.length, .slice (some ⟨i30, 0, none⟩) b.xs.length b.xs.length, .int .i64 b.made, .int .i64 b.taken, .slice (some ⟨g38, 0, none⟩) b.qs.length b.qs.length]) rfl p39.v (p39.k p38.v rfl) Try.sizeOf24 rfl h_q7 (Nat.le_of_ble_eq_true rfl) rfl ?_
  intro w40 W_w40
  replace h_q4 := keep_wrote h_q4 W_w40 n_q7_q4
  replace h_q7 := W_w40.here
  replace o_x12 := own_wrote o_x12 W_w40 d_x12_q7
  replace o_x18 := own_wrote o_x18 W_w40 d_x18_q7
  replace o_x22 := own_wrote o_x22 W_w40 d_x22_q7
  replace o_x26 := own_wrote o_x26 W_w40 d_x26_q7
  replace o_z30 := own_wrote o_z30 W_w40 d_z30_q7
  replace o_y30 := own_wrote o_y30 W_w40 d_y30_q7
  replace o_x38 := own_wrote o_x38 W_w40 d_x38_q7
  replace hB := below_wrote hB hB.size W_w40 g_q7.le
  clear W_w40
  refine wpList_nil ?_
  have kc35 := ((((Kps.nil a35).u p36).u p37).u p38).u p39
  replace s2 := kc35.k s2 rfl
  replace s3 := kc35.k s3 rfl
  clear kc35
  refine hK37 _ _ ?_
  clear hK37
  refine wp_seq_k fun K41 hK41 => ?_
  refine wp_region_lit ?_
  refine q_v p39.s rfl rfl rfl (g_loadB rfl s3 Try.isAgg32 Try.sizeOf32 rfl h_q7 ?_)
  intro a40 p40
  refine q_eff rfl rfl ?_
  refine g_storeB rfl (p40.k s2 rfl) p40.v Try.sizeOf32 rfl rfl h_q4 rfl ?_
  intro w42 W_w42
  replace h_q4 := W_w42.here
  replace o_x12 := own_wrote o_x12 W_w42 d_x12_q4
  replace o_x18 := own_wrote o_x18 W_w42 d_x18_q4
  replace o_x22 := own_wrote o_x22 W_w42 d_x22_q4
  replace o_x26 := own_wrote o_x26 W_w42 d_x26_q4
  replace o_z30 := own_wrote o_z30 W_w42 d_z30_q4
  replace o_y30 := own_wrote o_y30 W_w42 d_y30_q4
  replace o_x38 := own_wrote o_x38 W_w42 d_x38_q4
  replace hB := below_wrote hB hB.size W_w42 g_q4.le
  clear W_w42
  refine wpList_nil ?_
  replace s2 := p40.k s2 rfl
  refine hK41 _ _ ?_
  clear hK41
  refine wp_ret ?_
  try dsimp only [Exit.then, Exit.inBlock]
  refine ret1 p40.s Try.results24 (res_cell s2 h_q4 Try.isAgg32 Try.sizeOf32 rfl) ?_
  exact ⟨⟨⟨(some ⟨g12, 0, none⟩), b.ps.length, b.ps.length⟩, ⟨(some ⟨g18, 0, none⟩), b.ls.length, b.ls.length⟩, ⟨(some ⟨g22, 0, none⟩), b.os.length, b.os.length⟩, ⟨(some ⟨g26, 0, none⟩), b.ds.length, b.ds.length⟩, ⟨(some ⟨g30, 0, none⟩), b.rs.length, b.rs.length⟩, ⟨(some ⟨i30, 0, none⟩), b.xs.length, b.xs.length⟩, ⟨(some ⟨g38, 0, none⟩), b.qs.length, b.qs.length⟩⟩, rfl, ⟨o_x12, o_x18, o_x22, o_x26, o_z30, o_y30, o_x38, m_x12_y30, m_x12_x38, m_y30_x38⟩, hB⟩
set_option maxRecDepth 100000 in
set_option maxHeartbeats 4000000 in
theorem eqBoard_same {S S2 : BSl} {b : EBoard} (w : World) (hR : RdB w S b) (hR2 : RdB w S2 b) (hW : BdW b) :
    Calls Try.prog 25 #[bdV S b, bdV S2 b] w fun e w' => e = .returned (.bool true) ∧ Below w.heap.size w w' := by
  obtain ⟨⟨pA, pn, pc⟩, ⟨lA, ln, lc⟩, ⟨oA, on, oc⟩, ⟨dA, dn, dc⟩, ⟨rA, rn, rc⟩, ⟨xA, xn, xc⟩, ⟨qA, qn, qc⟩⟩ := S
  obtain ⟨⟨hr_p, hl_p, hnn_p, hnc_p⟩, ⟨hr_l, hl_l, hnn_l, hnc_l⟩, ⟨hr_o, hl_o, hnn_o, hnc_o⟩, ⟨hr_d, hl_d, hnn_d, hnc_d⟩, ⟨hr_r, hl_r, hnn_r, hnc_r⟩, ⟨hr_x, hl_x, hnn_x, hnc_x⟩, ⟨hr_q, hl_q, hnn_q, hnc_q⟩⟩ := hR
  change b.ps.length = pn at hl_p
  subst pn
  change Rd _ 1 pA b.ps.length (b.ps.flatMap cI) at hr_p
  change pA = none → b.ps.length = 0 ∧ pc = 0 at hnn_p
  change b.ps.length ≤ pc at hnc_p
  change b.ls.length = ln at hl_l
  subst ln
  change Rd _ 3 lA b.ls.length (b.ls.flatMap cLimit) at hr_l
  change lA = none → b.ls.length = 0 ∧ lc = 0 at hnn_l
  change b.ls.length ≤ lc at hnc_l
  change b.os.length = on at hl_o
  subst on
  change Rd _ 5 oA b.os.length (b.os.flatMap cWaiting) at hr_o
  change oA = none → b.os.length = 0 ∧ oc = 0 at hnn_o
  change b.os.length ≤ oc at hnc_o
  change b.ds.length = dn at hl_d
  subst dn
  change Rd _ 3 dA b.ds.length (b.ds.flatMap cDone) at hr_d
  change dA = none → b.ds.length = 0 ∧ dc = 0 at hnn_d
  change b.ds.length ≤ dc at hnc_d
  change b.rs.length = rn at hl_r
  subst rn
  change Rd _ 4 rA b.rs.length (b.rs.flatMap cRecord) at hr_r
  change rA = none → b.rs.length = 0 ∧ rc = 0 at hnn_r
  change b.rs.length ≤ rc at hnc_r
  change b.xs.length = xn at hl_x
  subst xn
  change Rd _ 1 xA b.xs.length (b.xs.flatMap cI) at hr_x
  change xA = none → b.xs.length = 0 ∧ xc = 0 at hnn_x
  change b.xs.length ≤ xc at hnc_x
  change b.qs.length = qn at hl_q
  subst qn
  change Rd _ 1 qA b.qs.length (b.qs.flatMap cI) at hr_q
  change qA = none → b.qs.length = 0 ∧ qc = 0 at hnn_q
  change b.qs.length ≤ qc at hnc_q
  have hW1 := hW.ps
  have hW2 := hW.ls
  have hW3 := hW.os
  have hW4 := hW.ds
  have hW5 := hW.rs
  have hW6 := hW.xs
  have hW7 := hW.qs
  obtain ⟨⟨pA2, pn2, pc2⟩, ⟨lA2, ln2, lc2⟩, ⟨oA2, on2, oc2⟩, ⟨dA2, dn2, dc2⟩, ⟨rA2, rn2, rc2⟩, ⟨xA2, xn2, xc2⟩, ⟨qA2, qn2, qc2⟩⟩ := S2
  obtain ⟨⟨hr_p2, hl_p2, hnn_p2, hnc_p2⟩, ⟨hr_l2, hl_l2, hnn_l2, hnc_l2⟩, ⟨hr_o2, hl_o2, hnn_o2, hnc_o2⟩, ⟨hr_d2, hl_d2, hnn_d2, hnc_d2⟩, ⟨hr_r2, hl_r2, hnn_r2, hnc_r2⟩, ⟨hr_x2, hl_x2, hnn_x2, hnc_x2⟩, ⟨hr_q2, hl_q2, hnn_q2, hnc_q2⟩⟩ := hR2
  change b.ps.length = pn2 at hl_p2
  subst pn2
  change Rd _ 1 pA2 b.ps.length (b.ps.flatMap cI) at hr_p2
  change b.ls.length = ln2 at hl_l2
  subst ln2
  change Rd _ 3 lA2 b.ls.length (b.ls.flatMap cLimit) at hr_l2
  change b.os.length = on2 at hl_o2
  subst on2
  change Rd _ 5 oA2 b.os.length (b.os.flatMap cWaiting) at hr_o2
  change b.ds.length = dn2 at hl_d2
  subst dn2
  change Rd _ 3 dA2 b.ds.length (b.ds.flatMap cDone) at hr_d2
  change b.rs.length = rn2 at hl_r2
  subst rn2
  change Rd _ 4 rA2 b.rs.length (b.rs.flatMap cRecord) at hr_r2
  change b.xs.length = xn2 at hl_x2
  subst xn2
  change Rd _ 1 xA2 b.xs.length (b.xs.flatMap cI) at hr_x2
  change b.qs.length = qn2 at hl_q2
  subst qn2
  change Rd _ 1 qA2 b.qs.length (b.qs.flatMap cI) at hr_q2
  refine enter 61 Try.func25 rfl rfl (Nat.le_of_ble_eq_true rfl) ?_
  intro a0 hs hargs
  have s0 : a0.eval (.tmp 0) = .agg #[.int .i64 b.clk, .slice pA b.ps.length pc, .bool b.safe, .slice lA b.ls.length lc, .slice oA b.os.length oc, .slice dA b.ds.length dc, .int .i64 b.room, .slice rA b.rs.length rc, .slice xA b.xs.length xc, .int .i64 b.made, .int .i64 b.taken, .slice qA b.qs.length qc] := hargs 0 _ rfl
  have s1 : a0.eval (.tmp 1) = .agg #[.int .i64 b.clk, .slice pA2 b.ps.length pc2, .bool b.safe, .slice lA2 b.ls.length lc2, .slice oA2 b.os.length oc2, .slice dA2 b.ds.length dc2, .int .i64 b.room, .slice rA2 b.rs.length rc2, .slice xA2 b.xs.length xc2, .int .i64 b.made, .int .i64 b.taken, .slice qA2 b.qs.length qc2] := hargs 1 _ rfl
  clear hargs
  have hB : Below w.heap.size w w := Below.refl _ _
  refine wp_seq_k fun K1 hK1 => ?_
  refine wp_region_lit ?_
  refine q_v hs rfl rfl rfl ?_
  refine g_box rfl s0 rfl ?_
  intro q2 w3 N_q2
  replace hB := below_new hB hB.size N_q2
  have h_q2 := N_q2.here
  clear N_q2
  intro a1 p1
  refine q_v p1.s rfl rfl rfl ?_
  refine g_box rfl (p1.k s1 rfl) rfl ?_
  intro q4 w5 N_q4
  replace h_q2 := keep_below h_q2 N_q4.below
  replace hB := below_new hB hB.size N_q4
  have h_q4 := N_q4.here
  clear N_q4
  intro a2 p2
  refine q_v p2.s rfl rfl rfl (g_assign rfl rfl ?_)
  intro a3 p3
  have s4 : a3.eval (.tmp 4) = .bool false := p3.v
  refine wpList_nil ?_
  replace s2 := p3.k (p2.k p1.v rfl) rfl
  replace s3 := p3.k p2.v rfl
  refine hK1 _ _ ?_
  clear hK1
  refine wp_seq_k fun K6 hK6 => ?_
  refine wp_seq_k fun K7 hK7 => ?_
  refine wp_region_lit ?_
  refine q_v p3.s rfl rfl rfl (g_field (r := 0) rfl s2 Try.underlying32 rfl (fun w => Try.sizeOf3 w) rfl rfl ?_)
  intro a4 p4
  refine q_v p4.s rfl rfl rfl (g_load rfl p4.v Try.isAgg3 (box_cell h_q2 rfl) ?_)
  intro a5 p5
  refine q_v p5.s rfl rfl rfl (g_field (r := 0) rfl (p5.k (p4.k s3 rfl) rfl) Try.underlying32 rfl (fun w => Try.sizeOf3 w) rfl rfl ?_)
  intro a6 p6
  refine q_v p6.s rfl rfl rfl (g_load rfl p6.v Try.isAgg3 (box_cell h_q4 rfl) ?_)
  intro a7 p7
  refine q_v p7.s rfl rfl rfl (g_neq rfl (p7.k (p6.k p5.v rfl) rfl) p7.v ?_)
  intro a8 p8
  have s9 : a8.eval (.tmp 9) = .bool false := (p8.v).trans (congrArg (fun b => Value.bool (!b)) (decide_eq_true rfl))
  refine wpList_nil ?_
  have kc3 := (((((Kps.nil a3).u p4).u p5).u p6).u p7).u p8
  replace s2 := kc3.k s2 rfl
  replace s3 := kc3.k s3 rfl
  replace s4 := kc3.k s4 rfl
  clear kc3
  refine hK7 _ _ ?_
  clear hK7
  refine c_false s9 ?_
  refine wp_skip ?_
  refine hK6 _ _ ?_
  clear hK6
  refine wp_seq_k fun K8 hK8 => ?_
  refine wp_seq_k fun K9 hK9 => ?_
  refine wp_region_lit ?_
  refine q_v p8.s rfl rfl rfl (g_field (r := 1) rfl s2 Try.underlying32 rfl (fun w => Try.sizeOf24 w) rfl rfl ?_)
  intro a9 p9
  refine q_v p9.s rfl rfl rfl (g_load rfl p9.v Try.isAgg24 (box_cell h_q2 rfl) ?_)
  intro a10 p10
  refine q_v p10.s rfl rfl rfl (g_field (r := 1) rfl (p10.k (p9.k s3 rfl) rfl) Try.underlying32 rfl (fun w => Try.sizeOf24 w) rfl rfl ?_)
  intro a11 p11
  refine q_v p11.s rfl rfl rfl (g_load rfl p11.v Try.isAgg24 (box_cell h_q4 rfl) ?_)
  intro a12 p12
  refine q_v p12.s rfl rfl rfl ?_
  refine g_call rfl rfl Try.call65 (arr2 (p12.k (p11.k p10.v rfl) rfl) p12.v) ?_
  refine (eqIntS_same _ _ _ _ _ _ b.ps _ rfl rfl (by omega) (hr_p.below hB) (hr_p2.below hB)).mono ?_
  rintro e w11 ⟨rfl, hb10⟩
  refine ⟨_, rfl, ?_⟩
  replace h_q2 := keep_below h_q2 hb10
  replace h_q4 := keep_below h_q4 hb10
  replace hB := hB.trans (hb10.mono hB.size)
  clear hb10
  intro a13 p13
  refine q_v p13.s rfl rfl rfl (g_not rfl p13.v ?_)
  intro a14 p14
  refine wpList_nil ?_
  have kc8 := ((((((Kps.nil a8).u p9).u p10).u p11).u p12).u p13).u p14
  replace s2 := kc8.k s2 rfl
  replace s3 := kc8.k s3 rfl
  replace s4 := kc8.k s4 rfl
  replace s15 := p14.v
  clear kc8
  refine hK9 _ _ ?_
  clear hK9
  refine c_false s15 ?_
  refine wp_skip ?_
  refine hK8 _ _ ?_
  clear hK8
  refine wp_seq_k fun K12 hK12 => ?_
  refine wp_seq_k fun K13 hK13 => ?_
  refine wp_region_lit ?_
  refine q_v p14.s rfl rfl rfl (g_field (r := 2) rfl s2 Try.underlying32 rfl (fun w => Try.sizeOf4 w) rfl rfl ?_)
  intro a15 p15
  refine q_v p15.s rfl rfl rfl (g_load rfl p15.v Try.isAgg4 (box_cell h_q2 rfl) ?_)
  intro a16 p16
  refine q_v p16.s rfl rfl rfl (g_field (r := 2) rfl (p16.k (p15.k s3 rfl) rfl) Try.underlying32 rfl (fun w => Try.sizeOf4 w) rfl rfl ?_)
  intro a17 p17
  refine q_v p17.s rfl rfl rfl (g_load rfl p17.v Try.isAgg4 (box_cell h_q4 rfl) ?_)
  intro a18 p18
  refine q_v p18.s rfl rfl rfl (g_neqT rfl Try.underlying4 (p18.k (p17.k p16.v rfl) rfl) p18.v ?_)
  intro a19 p19
  refine wpList_nil ?_
  have kc14 := (((((Kps.nil a14).u p15).u p16).u p17).u p18).u p19
  replace s2 := kc14.k s2 rfl
  replace s3 := kc14.k s3 rfl
  replace s4 := kc14.k s4 rfl
  replace s20 := p19.v
  clear kc14
  refine hK13 _ _ ?_
  clear hK13
  refine c_false s20 ?_
  refine wp_skip ?_
  refine hK12 _ _ ?_
  clear hK12
  refine wp_seq_k fun K14 hK14 => ?_
  refine wp_seq_k fun K15 hK15 => ?_
  refine wp_region_lit ?_
  refine q_v p19.s rfl rfl rfl (g_field (r := 3) rfl s2 Try.underlying32 rfl (fun w => Try.sizeOf25 w) rfl rfl ?_)
  intro a20 p20
  refine q_v p20.s rfl rfl rfl (g_load rfl p20.v Try.isAgg25 (box_cell h_q2 rfl) ?_)
  intro a21 p21
  refine q_v p21.s rfl rfl rfl (g_field (r := 3) rfl (p21.k (p20.k s3 rfl) rfl) Try.underlying32 rfl (fun w => Try.sizeOf25 w) rfl rfl ?_)
  intro a22 p22
  refine q_v p22.s rfl rfl rfl (g_load rfl p22.v Try.isAgg25 (box_cell h_q4 rfl) ?_)
  intro a23 p23
  refine q_v p23.s rfl rfl rfl ?_
  refine g_call rfl rfl Try.call29 (arr2 (p23.k (p22.k p21.v rfl) rfl) p23.v) ?_
  refine (eqLimitS_same _ _ _ _ _ _ b.ls _ rfl rfl (by omega) (hr_l.below hB) (hr_l2.below hB)).mono ?_
  rintro e w17 ⟨rfl, hb16⟩
  refine ⟨_, rfl, ?_⟩
  replace h_q2 := keep_below h_q2 hb16
  replace h_q4 := keep_below h_q4 hb16
  replace hB := hB.trans (hb16.mono hB.size)
  clear hb16
  intro a24 p24
  refine q_v p24.s rfl rfl rfl (g_not rfl p24.v ?_)
  intro a25 p25
  refine wpList_nil ?_
  have kc19 := ((((((Kps.nil a19).u p20).u p21).u p22).u p23).u p24).u p25
  replace s2 := kc19.k s2 rfl
  replace s3 := kc19.k s3 rfl
  replace s4 := kc19.k s4 rfl
  replace s26 := p25.v
  clear kc19
  refine hK15 _ _ ?_
  clear hK15
  refine c_false s26 ?_
  refine wp_skip ?_
  refine hK14 _ _ ?_
  clear hK14
  refine wp_seq_k fun K18 hK18 => ?_
  refine wp_seq_k fun K19 hK19 => ?_
  refine wp_region_lit ?_
  refine q_v p25.s rfl rfl rfl (g_field (r := 4) rfl s2 Try.underlying32 rfl (fun w => Try.sizeOf26 w) rfl rfl ?_)
  intro a26 p26
  refine q_v p26.s rfl rfl rfl (g_load rfl p26.v Try.isAgg26 (box_cell h_q2 rfl) ?_)
  intro a27 p27
  refine q_v p27.s rfl rfl rfl (g_field (r := 4) rfl (p27.k (p26.k s3 rfl) rfl) Try.underlying32 rfl (fun w => Try.sizeOf26 w) rfl rfl ?_)
  intro a28 p28
  refine q_v p28.s rfl rfl rfl (g_load rfl p28.v Try.isAgg26 (box_cell h_q4 rfl) ?_)
  intro a29 p29
  refine q_v p29.s rfl rfl rfl ?_
  refine g_call rfl rfl Try.call66 (arr2 (p29.k (p28.k p27.v rfl) rfl) p29.v) ?_
  refine (eqWaitingS_same _ _ _ _ _ _ b.os _ rfl rfl (by omega) (hr_o.below hB) (hr_o2.below hB)).mono ?_
  rintro e w21 ⟨rfl, hb20⟩
  refine ⟨_, rfl, ?_⟩
  replace h_q2 := keep_below h_q2 hb20
  replace h_q4 := keep_below h_q4 hb20
  replace hB := hB.trans (hb20.mono hB.size)
  clear hb20
  intro a30 p30
  refine q_v p30.s rfl rfl rfl (g_not rfl p30.v ?_)
  intro a31 p31
  refine wpList_nil ?_
  have kc25 := ((((((Kps.nil a25).u p26).u p27).u p28).u p29).u p30).u p31
  replace s2 := kc25.k s2 rfl
  replace s3 := kc25.k s3 rfl
  replace s4 := kc25.k s4 rfl
  replace s32 := p31.v
  clear kc25
  refine hK19 _ _ ?_
  clear hK19
  refine c_false s32 ?_
  refine wp_skip ?_
  refine hK18 _ _ ?_
  clear hK18
  refine wp_seq_k fun K22 hK22 => ?_
  refine wp_seq_k fun K23 hK23 => ?_
  refine wp_region_lit ?_
  refine q_v p31.s rfl rfl rfl (g_field (r := 5) rfl s2 Try.underlying32 rfl (fun w => Try.sizeOf27 w) rfl rfl ?_)
  intro a32 p32
  refine q_v p32.s rfl rfl rfl (g_load rfl p32.v Try.isAgg27 (box_cell h_q2 rfl) ?_)
  intro a33 p33
  refine q_v p33.s rfl rfl rfl (g_field (r := 5) rfl (p33.k (p32.k s3 rfl) rfl) Try.underlying32 rfl (fun w => Try.sizeOf27 w) rfl rfl ?_)
  intro a34 p34
  refine q_v p34.s rfl rfl rfl (g_load rfl p34.v Try.isAgg27 (box_cell h_q4 rfl) ?_)
  intro a35 p35
  refine q_v p35.s rfl rfl rfl ?_
  refine g_call rfl rfl Try.call67 (arr2 (p35.k (p34.k p33.v rfl) rfl) p35.v) ?_
  refine (eqDoneS_same _ _ _ _ _ _ b.ds _ rfl rfl (by omega) (hr_d.below hB) (hr_d2.below hB)).mono ?_
  rintro e w25 ⟨rfl, hb24⟩
  refine ⟨_, rfl, ?_⟩
  replace h_q2 := keep_below h_q2 hb24
  replace h_q4 := keep_below h_q4 hb24
  replace hB := hB.trans (hb24.mono hB.size)
  clear hb24
  intro a36 p36
  refine q_v p36.s rfl rfl rfl (g_not rfl p36.v ?_)
  intro a37 p37
  refine wpList_nil ?_
  have kc31 := ((((((Kps.nil a31).u p32).u p33).u p34).u p35).u p36).u p37
  replace s2 := kc31.k s2 rfl
  replace s3 := kc31.k s3 rfl
  replace s4 := kc31.k s4 rfl
  replace s38 := p37.v
  clear kc31
  refine hK23 _ _ ?_
  clear hK23
  refine c_false s38 ?_
  refine wp_skip ?_
  refine hK22 _ _ ?_
  clear hK22
  refine wp_seq_k fun K26 hK26 => ?_
  refine wp_seq_k fun K27 hK27 => ?_
  refine wp_region_lit ?_
  refine q_v p37.s rfl rfl rfl (g_field (r := 6) rfl s2 Try.underlying32 rfl (fun w => Try.sizeOf30 w) rfl rfl ?_)
  intro a38 p38
  refine q_v p38.s rfl rfl rfl (g_loadA (l := [.int .i64 b.room, .slice rA b.rs.length rc, .slice xA b.xs.length xc]) rfl p38.v Try.isAgg30 Try.sizeOf30 rfl (box_part h_q2 rfl) ?_)
  intro a39 p39
  refine q_v p39.s rfl rfl rfl (g_field (r := 6) rfl (p39.k (p38.k s3 rfl) rfl) Try.underlying32 rfl (fun w => Try.sizeOf30 w) rfl rfl ?_)
  intro a40 p40
  refine q_v p40.s rfl rfl rfl (g_loadA (l := [.int .i64 b.room, .slice rA2 b.rs.length rc2, .slice xA2 b.xs.length xc2]) rfl p40.v Try.isAgg30 Try.sizeOf30 rfl (box_part h_q4 rfl) ?_)
  intro a41 p41
  refine q_v p41.s rfl rfl rfl ?_
  refine g_call rfl rfl Try.call68 (arr2 (p41.k (p40.k p39.v rfl) rfl) p41.v) ?_
  refine (eqRecorder_same _ _ _ _ _ _ _ _ _ _ _ _ _ b.rs b.xs _ rfl rfl (by omega) rfl rfl (by omega) (hr_r.below hB) (hr_r2.below hB) (hr_x.below hB) (hr_x2.below hB)).mono ?_
  rintro e w29 ⟨rfl, hb28⟩
  refine ⟨_, rfl, ?_⟩
  replace h_q2 := keep_below h_q2 hb28
  replace h_q4 := keep_below h_q4 hb28
  replace hB := hB.trans (hb28.mono hB.size)
  clear hb28
  intro a42 p42
  refine q_v p42.s rfl rfl rfl (g_not rfl p42.v ?_)
  intro a43 p43
  refine wpList_nil ?_
  have kc37 := ((((((Kps.nil a37).u p38).u p39).u p40).u p41).u p42).u p43
  replace s2 := kc37.k s2 rfl
  replace s3 := kc37.k s3 rfl
  replace s4 := kc37.k s4 rfl
  replace s44 := p43.v
  clear kc37
  refine hK27 _ _ ?_
  clear hK27
  refine c_false s44 ?_
  refine wp_skip ?_
  refine hK26 _ _ ?_
  clear hK26
  refine wp_seq_k fun K30 hK30 => ?_
  refine wp_seq_k fun K31 hK31 => ?_
  refine wp_region_lit ?_
  refine q_v p43.s rfl rfl rfl (g_field (r := 9) rfl s2 Try.underlying32 rfl (fun w => Try.sizeOf3 w) rfl rfl ?_)
  intro a44 p44
  refine q_v p44.s rfl rfl rfl (g_load rfl p44.v Try.isAgg3 (box_cell h_q2 rfl) ?_)
  intro a45 p45
  refine q_v p45.s rfl rfl rfl (g_field (r := 9) rfl (p45.k (p44.k s3 rfl) rfl) Try.underlying32 rfl (fun w => Try.sizeOf3 w) rfl rfl ?_)
  intro a46 p46
  refine q_v p46.s rfl rfl rfl (g_load rfl p46.v Try.isAgg3 (box_cell h_q4 rfl) ?_)
  intro a47 p47
  refine q_v p47.s rfl rfl rfl (g_neq rfl (p47.k (p46.k p45.v rfl) rfl) p47.v ?_)
  intro a48 p48
  have s49 : a48.eval (.tmp 49) = .bool false := (p48.v).trans (congrArg (fun b => Value.bool (!b)) (decide_eq_true rfl))
  refine wpList_nil ?_
  have kc43 := (((((Kps.nil a43).u p44).u p45).u p46).u p47).u p48
  replace s2 := kc43.k s2 rfl
  replace s3 := kc43.k s3 rfl
  replace s4 := kc43.k s4 rfl
  clear kc43
  refine hK31 _ _ ?_
  clear hK31
  refine c_false s49 ?_
  refine wp_skip ?_
  refine hK30 _ _ ?_
  clear hK30
  refine wp_seq_k fun K32 hK32 => ?_
  refine wp_seq_k fun K33 hK33 => ?_
  refine wp_region_lit ?_
  refine q_v p48.s rfl rfl rfl (g_field (r := 10) rfl s2 Try.underlying32 rfl (fun w => Try.sizeOf3 w) rfl rfl ?_)
  intro a49 p49
  refine q_v p49.s rfl rfl rfl (g_load rfl p49.v Try.isAgg3 (box_cell h_q2 rfl) ?_)
  intro a50 p50
  refine q_v p50.s rfl rfl rfl (g_field (r := 10) rfl (p50.k (p49.k s3 rfl) rfl) Try.underlying32 rfl (fun w => Try.sizeOf3 w) rfl rfl ?_)
  intro a51 p51
  refine q_v p51.s rfl rfl rfl (g_load rfl p51.v Try.isAgg3 (box_cell h_q4 rfl) ?_)
  intro a52 p52
  refine q_v p52.s rfl rfl rfl (g_neq rfl (p52.k (p51.k p50.v rfl) rfl) p52.v ?_)
  intro a53 p53
  have s54 : a53.eval (.tmp 54) = .bool false := (p53.v).trans (congrArg (fun b => Value.bool (!b)) (decide_eq_true rfl))
  refine wpList_nil ?_
  have kc48 := (((((Kps.nil a48).u p49).u p50).u p51).u p52).u p53
  replace s2 := kc48.k s2 rfl
  replace s3 := kc48.k s3 rfl
  replace s4 := kc48.k s4 rfl
  clear kc48
  refine hK33 _ _ ?_
  clear hK33
  refine c_false s54 ?_
  refine wp_skip ?_
  refine hK32 _ _ ?_
  clear hK32
  refine wp_seq_k fun K34 hK34 => ?_
  refine wp_seq_k fun K35 hK35 => ?_
  refine wp_region_lit ?_
  refine q_v p53.s rfl rfl rfl (g_field (r := 11) rfl s2 Try.underlying32 rfl (fun w => Try.sizeOf24 w) rfl rfl ?_)
  intro a54 p54
  refine q_v p54.s rfl rfl rfl (g_load rfl p54.v Try.isAgg24 (box_cell h_q2 rfl) ?_)
  intro a55 p55
  refine q_v p55.s rfl rfl rfl (g_field (r := 11) rfl (p55.k (p54.k s3 rfl) rfl) Try.underlying32 rfl (fun w => Try.sizeOf24 w) rfl rfl ?_)
  intro a56 p56
  refine q_v p56.s rfl rfl rfl (g_load rfl p56.v Try.isAgg24 (box_cell h_q4 rfl) ?_)
  intro a57 p57
  refine q_v p57.s rfl rfl rfl ?_
  refine g_call rfl rfl Try.call65 (arr2 (p57.k (p56.k p55.v rfl) rfl) p57.v) ?_
  refine (eqIntS_same _ _ _ _ _ _ b.qs _ rfl rfl (by omega) (hr_q.below hB) (hr_q2.below hB)).mono ?_
  rintro e w37 ⟨rfl, hb36⟩
  refine ⟨_, rfl, ?_⟩
  replace hB := hB.trans (hb36.mono hB.size)
  clear hb36
  intro a58 p58
  refine q_v p58.s rfl rfl rfl (g_not rfl p58.v ?_)
  intro a59 p59
  refine wpList_nil ?_
  replace s4 := p59.k (p58.k (p57.k (p56.k (p55.k (p54.k s4 rfl) rfl) rfl) rfl) rfl) rfl
  replace s60 := p59.v
  refine hK35 _ _ ?_
  clear hK35
  refine c_false s60 ?_
  refine wp_skip ?_
  refine hK34 _ _ ?_
  clear hK34
  refine wp_seq_k fun K38 hK38 => ?_
  refine wp_region_lit ?_
  refine q_v p59.s rfl rfl rfl (g_assign rfl rfl ?_)
  intro a60 p60
  have s4 : a60.eval (.tmp 4) = .bool true := p60.v
  refine wpList_nil ?_
  refine hK38 _ _ ?_
  clear hK38
  refine wp_ret ?_
  try dsimp only [Exit.then, Exit.inBlock]
  refine ret1 p60.s Try.results25 (res_tmp s4) ?_
  exact ⟨rfl, hB⟩
set_option maxRecDepth 100000 in
set_option maxHeartbeats 4000000 in
theorem markBoard_any {base : Nat} {S : BSl} {b : EBoard} {k : Int} (w : World) (hk0 : 1 ≤ k) (hk1 : k ≤ 36028797018963968) (hW : BdW b) (hbs : base ≤ w.heap.size) (hO : OwnB w base S b) :
    Calls Try.prog 31 #[bdV S b, .int .i64 k] w fun e w' => e = .returned (.int .i64 (k + mkN b)) ∧ OwnB w' base S (mkB k b) ∧ ChgB w w' S := by
  have e_p := own_lenI hO.p
  have e_l := own_lenOf (by decide) cLimit_len hO.l
  have e_o := own_lenOf (by decide) cWaiting_len hO.o
  have e_d := own_lenOf (by decide) cDone_len hO.d
  have e_r := own_lenOf (by decide) cRecord_len hO.r
  have e_x := own_lenI hO.x
  have e_q := own_lenI hO.q
  have hne := hO
  obtain ⟨⟨pA, pn, pc⟩, ⟨lA, ln, lc⟩, ⟨oA, on, oc⟩, ⟨dA, dn, dc⟩, ⟨rA, rn, rc⟩, ⟨xA, xn, xc⟩, ⟨qA, qn, qc⟩⟩ := S
  change b.ps.length = pn at e_p
  subst pn
  change b.ls.length = ln at e_l
  subst ln
  change b.os.length = on at e_o
  subst on
  change b.ds.length = dn at e_d
  subst dn
  change b.rs.length = rn at e_r
  subst rn
  change b.xs.length = xn at e_x
  subst xn
  change b.qs.length = qn at e_q
  subst qn
  obtain ⟨o_p, o_l, o_o, o_d, o_r, o_x, o_q, ma, mb, mc⟩ := hO
  change w.ownsRow base 3 1 (.slice pA b.ps.length pc) b.ps.length (b.ps.flatMap cI) at o_p
  change w.ownsRow base 36 3 (.slice lA b.ls.length lc) b.ls.length (b.ls.flatMap cLimit) at o_l
  change w.ownsRow base 45 5 (.slice oA b.os.length oc) b.os.length (b.os.flatMap cWaiting) at o_o
  change w.ownsRow base 51 3 (.slice dA b.ds.length dc) b.ds.length (b.ds.flatMap cDone) at o_d
  change w.ownsRow base 47 4 (.slice rA b.rs.length rc) b.rs.length (b.rs.flatMap cRecord) at o_r
  change w.ownsRow base 3 1 (.slice xA b.xs.length xc) b.xs.length (b.xs.flatMap cI) at o_x
  change w.ownsRow base 3 1 (.slice qA b.qs.length qc) b.qs.length (b.qs.flatMap cI) at o_q
  have hW1 := hW.ps
  have hW2 := hW.ls
  have hW3 := hW.os
  have hW4 := hW.ds
  have hW5 := hW.rs
  have hW6 := hW.xs
  have hW7 := hW.qs
  have hC := ChgB.refl w (⟨⟨pA, b.ps.length, pc⟩, ⟨lA, b.ls.length, lc⟩, ⟨oA, b.os.length, oc⟩, ⟨dA, b.ds.length, dc⟩, ⟨rA, b.rs.length, rc⟩, ⟨xA, b.xs.length, xc⟩, ⟨qA, b.qs.length, qc⟩⟩ : BSl)
  have m_p_l := (own_ne_type o_p o_l (by decide))
  have m_l_p := ne_row_symm m_p_l
  have m_p_o := (own_ne_type o_p o_o (by decide))
  have m_o_p := ne_row_symm m_p_o
  have m_l_o := (own_ne_type o_l o_o (by decide))
  have m_o_l := ne_row_symm m_l_o
  have m_p_d := (own_ne_type o_p o_d (by decide))
  have m_d_p := ne_row_symm m_p_d
  have m_l_d := (own_ne_type o_l o_d (by decide))
  have m_d_l := ne_row_symm m_l_d
  have m_o_d := (own_ne_type o_o o_d (by decide))
  have m_d_o := ne_row_symm m_o_d
  have m_p_r := (own_ne_type o_p o_r (by decide))
  have m_r_p := ne_row_symm m_p_r
  have m_l_r := (own_ne_type o_l o_r (by decide))
  have m_r_l := ne_row_symm m_l_r
  have m_o_r := (own_ne_type o_o o_r (by decide))
  have m_r_o := ne_row_symm m_o_r
  have m_d_r := (own_ne_type o_d o_r (by decide))
  have m_r_d := ne_row_symm m_d_r
  have m_p_x := ma
  have m_x_p := ne_row_symm m_p_x
  have m_l_x := (own_ne_type o_l o_x (by decide))
  have m_x_l := ne_row_symm m_l_x
  have m_o_x := (own_ne_type o_o o_x (by decide))
  have m_x_o := ne_row_symm m_o_x
  have m_d_x := (own_ne_type o_d o_x (by decide))
  have m_x_d := ne_row_symm m_d_x
  have m_r_x := (own_ne_type o_r o_x (by decide))
  have m_x_r := ne_row_symm m_r_x
  have m_p_q := mb
  have m_q_p := ne_row_symm m_p_q
  have m_l_q := (own_ne_type o_l o_q (by decide))
  have m_q_l := ne_row_symm m_l_q
  have m_o_q := (own_ne_type o_o o_q (by decide))
  have m_q_o := ne_row_symm m_o_q
  have m_d_q := (own_ne_type o_d o_q (by decide))
  have m_q_d := ne_row_symm m_d_q
  have m_r_q := (own_ne_type o_r o_q (by decide))
  have m_q_r := ne_row_symm m_r_q
  have m_x_q := mc
  have m_q_x := ne_row_symm m_x_q
  have g_p : ∀ b, (pA : Option Addr).map (·.block) = some b → base ≤ b := fun b h => (own_row o_p b h).1
  have g_l : ∀ b, (lA : Option Addr).map (·.block) = some b → base ≤ b := fun b h => (own_row o_l b h).1
  have g_o : ∀ b, (oA : Option Addr).map (·.block) = some b → base ≤ b := fun b h => (own_row o_o b h).1
  have g_d : ∀ b, (dA : Option Addr).map (·.block) = some b → base ≤ b := fun b h => (own_row o_d b h).1
  have g_r : ∀ b, (rA : Option Addr).map (·.block) = some b → base ≤ b := fun b h => (own_row o_r b h).1
  have g_x : ∀ b, (xA : Option Addr).map (·.block) = some b → base ≤ b := fun b h => (own_row o_x b h).1
  have g_q : ∀ b, (qA : Option Addr).map (·.block) = some b → base ≤ b := fun b h => (own_row o_q b h).1
  refine enter 30 Try.func31 rfl rfl (Nat.le_of_ble_eq_true rfl) ?_
  intro a0 hs hargs
  have s0 : a0.eval (.tmp 0) = .agg #[.int .i64 b.clk, .slice pA b.ps.length pc, .bool b.safe, .slice lA b.ls.length lc, .slice oA b.os.length oc, .slice dA b.ds.length dc, .int .i64 b.room, .slice rA b.rs.length rc, .slice xA b.xs.length xc, .int .i64 b.made, .int .i64 b.taken, .slice qA b.qs.length qc] := hargs 0 _ rfl
  have s1 : a0.eval (.tmp 1) = .int .i64 k := hargs 1 _ rfl
  clear hargs
  have hBs : base ≤ w.heap.size := hbs
  refine wp_seq_k fun K1 hK1 => ?_
  refine wp_region_lit ?_
  refine q_v hs rfl rfl rfl ?_
  refine g_box rfl s0 rfl ?_
  intro q2 w3 N_q2
  have d_p_q2 := own_ne_new o_p N_q2
  have d_l_q2 := own_ne_new o_l N_q2
  have d_o_q2 := own_ne_new o_o N_q2
  have d_d_q2 := own_ne_new o_d N_q2
  have d_r_q2 := own_ne_new o_r N_q2
  have d_x_q2 := own_ne_new o_x N_q2
  replace hC := hC.below N_q2.below
  replace o_p := own_below o_p N_q2.below
  replace o_l := own_below o_l N_q2.below
  replace o_o := own_below o_o N_q2.below
  replace o_d := own_below o_d N_q2.below
  replace o_r := own_below o_r N_q2.below
  replace o_x := own_below o_x N_q2.below
  replace o_q := own_below o_q N_q2.below
  have h_q2 := N_q2.here
  clear N_q2
  intro a1 p1
  refine q_v p1.s rfl rfl rfl (g_assign rfl rfl ?_)
  intro a2 p2
  have s4 : a2.eval (.tmp 4) = .int .i64 0 := p2.v
  refine wpList_nil ?_
  replace s1 := p2.k (p1.k s1 rfl) rfl
  replace s2 := p2.k p1.v rfl
  refine hK1 _ _ ?_
  clear hK1
  refine wp_seq_k fun K4 hK4 => ?_
  refine wp_region_lit ?_
  refine q_v p2.s rfl rfl rfl (g_field (r := 1) rfl s2 Try.underlying32 rfl (fun w => Try.sizeOf24 w) rfl rfl ?_)
  intro a3 p3
  refine q_v p3.s rfl rfl rfl (g_load rfl p3.v Try.isAgg24 (box_cell h_q2 rfl) ?_)
  intro a4 p4
  refine q_v p4.s rfl rfl rfl (g_move rfl (p4.k (p3.k s1 rfl) rfl) ?_)
  intro a5 p5
  refine q_v p5.s rfl rfl rfl ?_
  refine g_call rfl rfl Try.call71 (arr2 (p5.k p4.v rfl) p5.v) ?_
  refine (markIntS_any base _ _ _ _ _ _ (by omega) (by omega) (by omega) o_p).mono ?_
  rintro e v5 ⟨rfl, oo5, gg5⟩
  refine ⟨_, rfl, ?_⟩
  replace hC := hC.row gg5 (fun q h => h.1)
  replace h_q2 := keep_grown h_q2 gg5 d_p_q2
  replace o_l := own_grown o_l gg5 m_l_p
  replace o_o := own_grown o_o gg5 m_o_p
  replace o_d := own_grown o_d gg5 m_d_p
  replace o_r := own_grown o_r gg5 m_r_p
  replace o_x := own_grown o_x gg5 m_x_p
  replace o_q := own_grown o_q gg5 m_q_p
  replace o_p := oo5
  clear gg5
  intro a6 p6
  refine q_v p6.s rfl rfl rfl (g_assign rfl p6.v ?_)
  intro a7 p7
  refine wpList_nil ?_
  have kc2 := (((((Kps.nil a2).u p3).u p4).u p5).u p6).u p7
  replace s1 := p7.v
  replace s2 := kc2.k s2 rfl
  replace s4 := kc2.k s4 rfl
  clear kc2
  refine hK4 _ _ ?_
  clear hK4
  refine wp_seq_k fun K6 hK6 => ?_
  refine wp_region_lit ?_
  refine q_v p7.s rfl rfl rfl (g_field (r := 3) rfl s2 Try.underlying32 rfl (fun w => Try.sizeOf25 w) rfl rfl ?_)
  intro a8 p8
  refine q_v p8.s rfl rfl rfl (g_load rfl p8.v Try.isAgg25 (box_cell h_q2 rfl) ?_)
  intro a9 p9
  refine q_v p9.s rfl rfl rfl (g_move rfl (p9.k (p8.k s1 rfl) rfl) ?_)
  intro a10 p10
  refine q_v p10.s rfl rfl rfl ?_
  refine g_call rfl rfl Try.call30 (arr2 (p10.k p9.v rfl) p10.v) ?_
  refine (markLimitS_any base _ _ _ _ _ _ (by omega) (by omega) (by omega) o_l).mono ?_
  rintro e v7 ⟨rfl, oo7, gg7⟩
  refine ⟨_, rfl, ?_⟩
  replace hC := hC.row gg7 (fun q h => h.2.1)
  replace h_q2 := keep_grown h_q2 gg7 d_l_q2
  replace o_p := own_grown o_p gg7 m_p_l
  replace o_o := own_grown o_o gg7 m_o_l
  replace o_d := own_grown o_d gg7 m_d_l
  replace o_r := own_grown o_r gg7 m_r_l
  replace o_x := own_grown o_x gg7 m_x_l
  replace o_q := own_grown o_q gg7 m_q_l
  replace o_l := oo7
  clear gg7
  intro a11 p11
  refine q_v p11.s rfl rfl rfl (g_assign rfl p11.v ?_)
  intro a12 p12
  refine wpList_nil ?_
  have kc7 := (((((Kps.nil a7).u p8).u p9).u p10).u p11).u p12
  replace s1 := p12.v
  replace s2 := kc7.k s2 rfl
  replace s4 := kc7.k s4 rfl
  clear kc7
  refine hK6 _ _ ?_
  clear hK6
  refine wp_seq_k fun K8 hK8 => ?_
  refine wp_region_lit ?_
  refine q_v p12.s rfl rfl rfl (g_field (r := 4) rfl s2 Try.underlying32 rfl (fun w => Try.sizeOf26 w) rfl rfl ?_)
  intro a13 p13
  refine q_v p13.s rfl rfl rfl (g_load rfl p13.v Try.isAgg26 (box_cell h_q2 rfl) ?_)
  intro a14 p14
  refine q_v p14.s rfl rfl rfl (g_move rfl (p14.k (p13.k s1 rfl) rfl) ?_)
  intro a15 p15
  refine q_v p15.s rfl rfl rfl ?_
  refine g_call rfl rfl Try.call72 (arr2 (p15.k p14.v rfl) p15.v) ?_
  refine (markWaitingS_any base _ _ _ _ _ _ (by omega) (by omega) (by omega) o_o).mono ?_
  rintro e v9 ⟨rfl, oo9, gg9⟩
  refine ⟨_, rfl, ?_⟩
  replace hC := hC.row gg9 (fun q h => h.2.2.1)
  replace h_q2 := keep_grown h_q2 gg9 d_o_q2
  replace o_p := own_grown o_p gg9 m_p_o
  replace o_l := own_grown o_l gg9 m_l_o
  replace o_d := own_grown o_d gg9 m_d_o
  replace o_r := own_grown o_r gg9 m_r_o
  replace o_x := own_grown o_x gg9 m_x_o
  replace o_q := own_grown o_q gg9 m_q_o
  replace o_o := oo9
  clear gg9
  intro a16 p16
  refine q_v p16.s rfl rfl rfl (g_assign rfl p16.v ?_)
  intro a17 p17
  refine wpList_nil ?_
  have kc12 := (((((Kps.nil a12).u p13).u p14).u p15).u p16).u p17
  replace s1 := p17.v
  replace s2 := kc12.k s2 rfl
  replace s4 := kc12.k s4 rfl
  clear kc12
  refine hK8 _ _ ?_
  clear hK8
  refine wp_seq_k fun K10 hK10 => ?_
  refine wp_region_lit ?_
  refine q_v p17.s rfl rfl rfl (g_field (r := 5) rfl s2 Try.underlying32 rfl (fun w => Try.sizeOf27 w) rfl rfl ?_)
  intro a18 p18
  refine q_v p18.s rfl rfl rfl (g_load rfl p18.v Try.isAgg27 (box_cell h_q2 rfl) ?_)
  intro a19 p19
  refine q_v p19.s rfl rfl rfl (g_move rfl (p19.k (p18.k s1 rfl) rfl) ?_)
  intro a20 p20
  refine q_v p20.s rfl rfl rfl ?_
  refine g_call rfl rfl Try.call73 (arr2 (p20.k p19.v rfl) p20.v) ?_
  refine (markDoneS_any base _ _ _ _ _ _ (by omega) (by omega) (by omega) o_d).mono ?_
  rintro e v11 ⟨rfl, oo11, gg11⟩
  refine ⟨_, rfl, ?_⟩
  replace hC := hC.row gg11 (fun q h => h.2.2.2.1)
  replace h_q2 := keep_grown h_q2 gg11 d_d_q2
  replace o_p := own_grown o_p gg11 m_p_d
  replace o_l := own_grown o_l gg11 m_l_d
  replace o_o := own_grown o_o gg11 m_o_d
  replace o_r := own_grown o_r gg11 m_r_d
  replace o_x := own_grown o_x gg11 m_x_d
  replace o_q := own_grown o_q gg11 m_q_d
  replace o_d := oo11
  clear gg11
  intro a21 p21
  refine q_v p21.s rfl rfl rfl (g_assign rfl p21.v ?_)
  intro a22 p22
  refine wpList_nil ?_
  have kc17 := (((((Kps.nil a17).u p18).u p19).u p20).u p21).u p22
  replace s1 := p22.v
  replace s2 := kc17.k s2 rfl
  replace s4 := kc17.k s4 rfl
  clear kc17
  refine hK10 _ _ ?_
  clear hK10
  refine wp_seq_k fun K12 hK12 => ?_
  refine wp_region_lit ?_
  refine q_v p22.s rfl rfl rfl (g_field (r := 6) rfl s2 Try.underlying32 rfl (fun w => Try.sizeOf30 w) rfl rfl ?_)
  intro a23 p23
  refine q_v p23.s rfl rfl rfl (g_loadA (l := [.int .i64 b.room, .slice rA b.rs.length rc, .slice xA b.xs.length xc]) rfl p23.v Try.isAgg30 Try.sizeOf30 rfl (box_part h_q2 rfl) ?_)
  intro a24 p24
  refine q_v p24.s rfl rfl rfl (g_move rfl (p24.k (p23.k s1 rfl) rfl) ?_)
  intro a25 p25
  refine q_v p25.s rfl rfl rfl ?_
  refine g_call rfl rfl Try.call74 (arr2 (p25.k p24.v rfl) p25.v) ?_
  refine (markRecorder_any (base := base) (base' := base) (k := (((k + ((b.ps.length : Nat) : Int)) + 3 * ((b.ls.length : Nat) : Int)) + 5 * ((b.os.length : Nat) : Int)) + 3 * ((b.ds.length : Nat) : Int)) _ (by omega) (by omega) (by omega) (by omega) o_r o_x).mono ?_
  rintro e v13 ⟨rfl, u13, oa13, ga13, ob13, gb13⟩
  refine ⟨_, rfl, ?_⟩
  replace hC := (hC.row ga13 (fun q h => h.2.2.2.2.1)).row gb13 (fun q h => h.2.2.2.2.2.1)
  replace h_q2 := keep_grown h_q2 ga13 d_r_q2
  replace o_p := own_grown o_p ga13 m_p_r
  replace o_l := own_grown o_l ga13 m_l_r
  replace o_o := own_grown o_o ga13 m_o_r
  replace o_d := own_grown o_d ga13 m_d_r
  replace o_x := own_grown o_x ga13 m_x_r
  replace o_q := own_grown o_q ga13 m_q_r
  replace o_r := oa13
  clear ga13
  replace h_q2 := keep_grown h_q2 gb13 d_x_q2
  replace o_p := own_grown o_p gb13 m_p_x
  replace o_l := own_grown o_l gb13 m_l_x
  replace o_o := own_grown o_o gb13 m_o_x
  replace o_d := own_grown o_d gb13 m_d_x
  replace o_r := own_grown o_r gb13 m_r_x
  replace o_q := own_grown o_q gb13 m_q_x
  replace o_x := ob13
  clear gb13
  intro a26 p26
  refine q_v p26.s rfl rfl rfl (g_assign rfl p26.v ?_)
  intro a27 p27
  refine wpList_nil ?_
  have kc22 := (((((Kps.nil a22).u p23).u p24).u p25).u p26).u p27
  replace s1 := p27.v
  replace s2 := kc22.k s2 rfl
  replace s4 := kc22.k s4 rfl
  clear kc22
  refine hK12 _ _ ?_
  clear hK12
  refine wp_seq_k fun K14 hK14 => ?_
  refine wp_region_lit ?_
  refine q_v p27.s rfl rfl rfl (g_field (r := 11) rfl s2 Try.underlying32 rfl (fun w => Try.sizeOf24 w) rfl rfl ?_)
  intro a28 p28
  refine q_v p28.s rfl rfl rfl (g_load rfl p28.v Try.isAgg24 (box_cell h_q2 rfl) ?_)
  intro a29 p29
  refine q_v p29.s rfl rfl rfl (g_move rfl (p29.k (p28.k s1 rfl) rfl) ?_)
  intro a30 p30
  refine q_v p30.s rfl rfl rfl ?_
  refine g_call rfl rfl Try.call71 (arr2 (p30.k p29.v rfl) p30.v) ?_
  refine (markIntS_any base _ _ _ _ _ _ (by omega) (by omega) (by omega) o_q).mono ?_
  rintro e v15 ⟨rfl, oo15, gg15⟩
  refine ⟨_, rfl, ?_⟩
  replace hC := hC.row gg15 (fun q h => h.2.2.2.2.2.2)
  replace o_p := own_grown o_p gg15 m_p_q
  replace o_l := own_grown o_l gg15 m_l_q
  replace o_o := own_grown o_o gg15 m_o_q
  replace o_d := own_grown o_d gg15 m_d_q
  replace o_r := own_grown o_r gg15 m_r_q
  replace o_x := own_grown o_x gg15 m_x_q
  replace o_q := oo15
  clear gg15
  intro a31 p31
  refine q_v p31.s rfl rfl rfl (g_assign rfl p31.v ?_)
  intro a32 p32
  refine wpList_nil ?_
  replace s1 := p32.v
  replace s4 := p32.k (p31.k (p30.k (p29.k (p28.k s4 rfl) rfl) rfl) rfl) rfl
  refine hK14 _ _ ?_
  clear hK14
  refine wp_seq_k fun K16 hK16 => ?_
  refine wp_region_lit ?_
  refine q_v p32.s rfl rfl rfl (g_move rfl s1 ?_)
  intro a33 p33
  refine q_v p33.s rfl rfl rfl (g_assign rfl p33.v ?_)
  intro a34 p34
  refine wpList_nil ?_
  replace s4 := p34.v
  refine hK16 _ _ ?_
  clear hK16
  refine wp_ret ?_
  try dsimp only [Exit.then, Exit.inBlock]
  refine ret1 p34.s Try.results31 (res_tmp s4) ?_
  exact ⟨by unfold mkN; congr 2; omega, ⟨o_p, o_l, o_o, o_d, o_r, o_x, o_q, hne.px, hne.pq, hne.xq⟩, hC⟩

set_option maxRecDepth 100000 in
set_option maxHeartbeats 4000000 in
theorem heldBoard_any {S : BSl} {b : EBoard} {k : Int} (w : World) (hk0 : 1 ≤ k) (hk1 : k ≤ 36028797018963968) (hW : BdW b) (hR : RdB w S (mkB k b)) :
    Calls Try.prog 32 #[bdV S (mkB k b), .int .i64 k] w fun e w' => e = .returned (.int .i64 (k + mkN b)) ∧ Below w.heap.size w w' := by
  have hW1 := hW.ps
  have hW2 := hW.ls
  have hW3 := hW.os
  have hW4 := hW.ds
  have hW5 := hW.rs
  have hW6 := hW.xs
  have hW7 := hW.qs
  obtain ⟨⟨pA, pn, pc⟩, ⟨lA, ln, lc⟩, ⟨oA, on, oc⟩, ⟨dA, dn, dc⟩, ⟨rA, rn, rc⟩, ⟨xA, xn, xc⟩, ⟨qA, qn, qc⟩⟩ := S
  obtain ⟨⟨hr_p, hl_p, _, _⟩, ⟨hr_l, hl_l, _, _⟩, ⟨hr_o, hl_o, _, _⟩, ⟨hr_d, hl_d, _, _⟩, ⟨hr_r, hl_r, _, _⟩, ⟨hr_x, hl_x, _, _⟩, ⟨hr_q, hl_q, _, _⟩⟩ := hR
  change (marksI k b.ps.length).length = pn at hl_p
  rw [marksI_len] at hl_p
  subst pn
  change Rd _ 1 pA b.ps.length ((marksI k b.ps.length).flatMap cI) at hr_p
  change (marksLimit (k + ((b.ps.length : Nat) : Int)) b.ls.length).length = ln at hl_l
  rw [marksLimit_len] at hl_l
  subst ln
  change Rd _ 3 lA b.ls.length ((marksLimit (k + ((b.ps.length : Nat) : Int)) b.ls.length).flatMap cLimit) at hr_l
  change (marksWaiting ((k + ((b.ps.length : Nat) : Int)) + 3 * ((b.ls.length : Nat) : Int)) b.os.length).length = on at hl_o
  rw [marksWaiting_len] at hl_o
  subst on
  change Rd _ 5 oA b.os.length ((marksWaiting ((k + ((b.ps.length : Nat) : Int)) + 3 * ((b.ls.length : Nat) : Int)) b.os.length).flatMap cWaiting) at hr_o
  change (marksDone (((k + ((b.ps.length : Nat) : Int)) + 3 * ((b.ls.length : Nat) : Int)) + 5 * ((b.os.length : Nat) : Int)) b.ds.length).length = dn at hl_d
  rw [marksDone_len] at hl_d
  subst dn
  change Rd _ 3 dA b.ds.length ((marksDone (((k + ((b.ps.length : Nat) : Int)) + 3 * ((b.ls.length : Nat) : Int)) + 5 * ((b.os.length : Nat) : Int)) b.ds.length).flatMap cDone) at hr_d
  change (marksRecord ((((k + ((b.ps.length : Nat) : Int)) + 3 * ((b.ls.length : Nat) : Int)) + 5 * ((b.os.length : Nat) : Int)) + 3 * ((b.ds.length : Nat) : Int)) b.rs.length).length = rn at hl_r
  rw [marksRecord_len] at hl_r
  subst rn
  change Rd _ 4 rA b.rs.length ((marksRecord ((((k + ((b.ps.length : Nat) : Int)) + 3 * ((b.ls.length : Nat) : Int)) + 5 * ((b.os.length : Nat) : Int)) + 3 * ((b.ds.length : Nat) : Int)) b.rs.length).flatMap cRecord) at hr_r
  change (marksI (((((k + ((b.ps.length : Nat) : Int)) + 3 * ((b.ls.length : Nat) : Int)) + 5 * ((b.os.length : Nat) : Int)) + 3 * ((b.ds.length : Nat) : Int)) + 4 * ((b.rs.length : Nat) : Int)) b.xs.length).length = xn at hl_x
  rw [marksI_len] at hl_x
  subst xn
  change Rd _ 1 xA b.xs.length ((marksI (((((k + ((b.ps.length : Nat) : Int)) + 3 * ((b.ls.length : Nat) : Int)) + 5 * ((b.os.length : Nat) : Int)) + 3 * ((b.ds.length : Nat) : Int)) + 4 * ((b.rs.length : Nat) : Int)) b.xs.length).flatMap cI) at hr_x
  change (marksI ((((((k + ((b.ps.length : Nat) : Int)) + 3 * ((b.ls.length : Nat) : Int)) + 5 * ((b.os.length : Nat) : Int)) + 3 * ((b.ds.length : Nat) : Int)) + 4 * ((b.rs.length : Nat) : Int)) + ((b.xs.length : Nat) : Int)) b.qs.length).length = qn at hl_q
  rw [marksI_len] at hl_q
  subst qn
  change Rd _ 1 qA b.qs.length ((marksI ((((((k + ((b.ps.length : Nat) : Int)) + 3 * ((b.ls.length : Nat) : Int)) + 5 * ((b.os.length : Nat) : Int)) + 3 * ((b.ds.length : Nat) : Int)) + 4 * ((b.rs.length : Nat) : Int)) + ((b.xs.length : Nat) : Int)) b.qs.length).flatMap cI) at hr_q
  refine enter 42 Try.func32 rfl rfl (Nat.le_of_ble_eq_true rfl) ?_
  intro a0 hs hargs
  have s0 : a0.eval (.tmp 0) = .agg #[.int .i64 b.clk, .slice pA b.ps.length pc, .bool b.safe, .slice lA b.ls.length lc, .slice oA b.os.length oc, .slice dA b.ds.length dc, .int .i64 b.room, .slice rA b.rs.length rc, .slice xA b.xs.length xc, .int .i64 b.made, .int .i64 b.taken, .slice qA b.qs.length qc] := hargs 0 _ rfl
  have s1 : a0.eval (.tmp 1) = .int .i64 k := hargs 1 _ rfl
  clear hargs
  have hB : Below w.heap.size w w := Below.refl _ _
  refine wp_seq_k fun K1 hK1 => ?_
  refine wp_region_lit ?_
  refine q_v hs rfl rfl rfl ?_
  refine g_box rfl s0 rfl ?_
  intro q2 w3 N_q2
  replace hB := below_new hB hB.size N_q2
  have h_q2 := N_q2.here
  clear N_q2
  intro a1 p1
  refine q_v p1.s rfl rfl rfl (g_assign rfl rfl ?_)
  intro a2 p2
  have s4 : a2.eval (.tmp 4) = .int .i64 0 := p2.v
  refine wpList_nil ?_
  replace s1 := p2.k (p1.k s1 rfl) rfl
  replace s2 := p2.k p1.v rfl
  refine hK1 _ _ ?_
  clear hK1
  refine wp_seq_k fun K4 hK4 => ?_
  refine wp_region_lit ?_
  refine q_v p2.s rfl rfl rfl (g_field (r := 1) rfl s2 Try.underlying32 rfl (fun w => Try.sizeOf24 w) rfl rfl ?_)
  intro a3 p3
  refine q_v p3.s rfl rfl rfl (g_load rfl p3.v Try.isAgg24 (box_cell h_q2 rfl) ?_)
  intro a4 p4
  refine q_v p4.s rfl rfl rfl (g_move rfl (p4.k (p3.k s1 rfl) rfl) ?_)
  intro a5 p5
  refine q_v p5.s rfl rfl rfl ?_
  refine g_call rfl rfl Try.call75 (arr2 (p5.k p4.v rfl) p5.v) ?_
  refine (heldIntS_any _ _ _ _ _ (by omega) (by omega) (by omega) (hr_p.below hB)).mono ?_
  rintro e w' ⟨rfl, rfl⟩
  refine ⟨_, rfl, ?_⟩
  intro a6 p6
  refine q_v p6.s rfl rfl rfl (g_assign rfl p6.v ?_)
  intro a7 p7
  refine wpList_nil ?_
  have kc2 := (((((Kps.nil a2).u p3).u p4).u p5).u p6).u p7
  replace s1 := p7.v
  replace s2 := kc2.k s2 rfl
  replace s4 := kc2.k s4 rfl
  clear kc2
  refine hK4 _ _ ?_
  clear hK4
  refine wp_seq_k fun K6 hK6 => ?_
  refine wp_seq_k fun K7 hK7 => ?_
  refine wp_region_lit ?_
  refine q_v p7.s rfl rfl rfl (g_move rfl s1 ?_)
  intro a8 p8
  refine q_v p8.s rfl rfl rfl (g_lss rfl p8.v rfl ?_)
  intro a9 p9
  have s10 : a9.eval (.tmp 10) = .bool false := (p9.v).trans (congrArg Value.bool (decide_eq_false (by omega)))
  refine wpList_nil ?_
  replace s1 := p9.k (p8.k s1 rfl) rfl
  replace s2 := p9.k (p8.k s2 rfl) rfl
  replace s4 := p9.k (p8.k s4 rfl) rfl
  refine hK7 _ _ ?_
  clear hK7
  refine c_false s10 ?_
  refine wp_skip ?_
  refine hK6 _ _ ?_
  clear hK6
  refine wp_seq_k fun K8 hK8 => ?_
  refine wp_region_lit ?_
  refine q_v p9.s rfl rfl rfl (g_field (r := 3) rfl s2 Try.underlying32 rfl (fun w => Try.sizeOf25 w) rfl rfl ?_)
  intro a10 p10
  refine q_v p10.s rfl rfl rfl (g_load rfl p10.v Try.isAgg25 (box_cell h_q2 rfl) ?_)
  intro a11 p11
  refine q_v p11.s rfl rfl rfl (g_move rfl (p11.k (p10.k s1 rfl) rfl) ?_)
  intro a12 p12
  refine q_v p12.s rfl rfl rfl ?_
  refine g_call rfl rfl Try.call76 (arr2 (p12.k p11.v rfl) p12.v) ?_
  refine (heldLimitS_any _ _ _ _ _ (by omega) (by omega) (by omega) (hr_l.below hB)).mono ?_
  rintro e w10 ⟨rfl, hb9⟩
  refine ⟨_, rfl, ?_⟩
  replace h_q2 := keep_below h_q2 hb9
  replace hB := hB.trans (hb9.mono hB.size)
  clear hb9
  intro a13 p13
  refine q_v p13.s rfl rfl rfl (g_assign rfl p13.v ?_)
  intro a14 p14
  refine wpList_nil ?_
  have kc9 := (((((Kps.nil a9).u p10).u p11).u p12).u p13).u p14
  replace s1 := p14.v
  replace s2 := kc9.k s2 rfl
  replace s4 := kc9.k s4 rfl
  clear kc9
  refine hK8 _ _ ?_
  clear hK8
  refine wp_seq_k fun K11 hK11 => ?_
  refine wp_seq_k fun K12 hK12 => ?_
  refine wp_region_lit ?_
  refine q_v p14.s rfl rfl rfl (g_move rfl s1 ?_)
  intro a15 p15
  refine q_v p15.s rfl rfl rfl (g_lss rfl p15.v rfl ?_)
  intro a16 p16
  have s16 : a16.eval (.tmp 16) = .bool false := (p16.v).trans (congrArg Value.bool (decide_eq_false (by omega)))
  refine wpList_nil ?_
  replace s1 := p16.k (p15.k s1 rfl) rfl
  replace s2 := p16.k (p15.k s2 rfl) rfl
  replace s4 := p16.k (p15.k s4 rfl) rfl
  refine hK12 _ _ ?_
  clear hK12
  refine c_false s16 ?_
  refine wp_skip ?_
  refine hK11 _ _ ?_
  clear hK11
  refine wp_seq_k fun K13 hK13 => ?_
  refine wp_region_lit ?_
  refine q_v p16.s rfl rfl rfl (g_field (r := 4) rfl s2 Try.underlying32 rfl (fun w => Try.sizeOf26 w) rfl rfl ?_)
  intro a17 p17
  refine q_v p17.s rfl rfl rfl (g_load rfl p17.v Try.isAgg26 (box_cell h_q2 rfl) ?_)
  intro a18 p18
  refine q_v p18.s rfl rfl rfl (g_move rfl (p18.k (p17.k s1 rfl) rfl) ?_)
  intro a19 p19
  refine q_v p19.s rfl rfl rfl ?_
  refine g_call rfl rfl Try.call77 (arr2 (p19.k p18.v rfl) p19.v) ?_
  refine (heldWaitingS_any _ _ _ _ _ (by omega) (by omega) (by omega) (hr_o.below hB)).mono ?_
  rintro e w15 ⟨rfl, hb14⟩
  refine ⟨_, rfl, ?_⟩
  replace h_q2 := keep_below h_q2 hb14
  replace hB := hB.trans (hb14.mono hB.size)
  clear hb14
  intro a20 p20
  refine q_v p20.s rfl rfl rfl (g_assign rfl p20.v ?_)
  intro a21 p21
  refine wpList_nil ?_
  have kc16 := (((((Kps.nil a16).u p17).u p18).u p19).u p20).u p21
  replace s1 := p21.v
  replace s2 := kc16.k s2 rfl
  replace s4 := kc16.k s4 rfl
  clear kc16
  refine hK13 _ _ ?_
  clear hK13
  refine wp_seq_k fun K16 hK16 => ?_
  refine wp_seq_k fun K17 hK17 => ?_
  refine wp_region_lit ?_
  refine q_v p21.s rfl rfl rfl (g_move rfl s1 ?_)
  intro a22 p22
  refine q_v p22.s rfl rfl rfl (g_lss rfl p22.v rfl ?_)
  intro a23 p23
  have s22 : a23.eval (.tmp 22) = .bool false := (p23.v).trans (congrArg Value.bool (decide_eq_false (by omega)))
  refine wpList_nil ?_
  replace s1 := p23.k (p22.k s1 rfl) rfl
  replace s2 := p23.k (p22.k s2 rfl) rfl
  replace s4 := p23.k (p22.k s4 rfl) rfl
  refine hK17 _ _ ?_
  clear hK17
  refine c_false s22 ?_
  refine wp_skip ?_
  refine hK16 _ _ ?_
  clear hK16
  refine wp_seq_k fun K18 hK18 => ?_
  refine wp_region_lit ?_
  refine q_v p23.s rfl rfl rfl (g_field (r := 5) rfl s2 Try.underlying32 rfl (fun w => Try.sizeOf27 w) rfl rfl ?_)
  intro a24 p24
  refine q_v p24.s rfl rfl rfl (g_load rfl p24.v Try.isAgg27 (box_cell h_q2 rfl) ?_)
  intro a25 p25
  refine q_v p25.s rfl rfl rfl (g_move rfl (p25.k (p24.k s1 rfl) rfl) ?_)
  intro a26 p26
  refine q_v p26.s rfl rfl rfl ?_
  refine g_call rfl rfl Try.call78 (arr2 (p26.k p25.v rfl) p26.v) ?_
  refine (heldDoneS_any _ _ _ _ _ (by omega) (by omega) (by omega) (hr_d.below hB)).mono ?_
  rintro e w20 ⟨rfl, hb19⟩
  refine ⟨_, rfl, ?_⟩
  replace h_q2 := keep_below h_q2 hb19
  replace hB := hB.trans (hb19.mono hB.size)
  clear hb19
  intro a27 p27
  refine q_v p27.s rfl rfl rfl (g_assign rfl p27.v ?_)
  intro a28 p28
  refine wpList_nil ?_
  have kc23 := (((((Kps.nil a23).u p24).u p25).u p26).u p27).u p28
  replace s1 := p28.v
  replace s2 := kc23.k s2 rfl
  replace s4 := kc23.k s4 rfl
  clear kc23
  refine hK18 _ _ ?_
  clear hK18
  refine wp_seq_k fun K21 hK21 => ?_
  refine wp_seq_k fun K22 hK22 => ?_
  refine wp_region_lit ?_
  refine q_v p28.s rfl rfl rfl (g_move rfl s1 ?_)
  intro a29 p29
  refine q_v p29.s rfl rfl rfl (g_lss rfl p29.v rfl ?_)
  intro a30 p30
  have s28 : a30.eval (.tmp 28) = .bool false := (p30.v).trans (congrArg Value.bool (decide_eq_false (by omega)))
  refine wpList_nil ?_
  replace s1 := p30.k (p29.k s1 rfl) rfl
  replace s2 := p30.k (p29.k s2 rfl) rfl
  replace s4 := p30.k (p29.k s4 rfl) rfl
  refine hK22 _ _ ?_
  clear hK22
  refine c_false s28 ?_
  refine wp_skip ?_
  refine hK21 _ _ ?_
  clear hK21
  refine wp_seq_k fun K23 hK23 => ?_
  refine wp_region_lit ?_
  refine q_v p30.s rfl rfl rfl (g_field (r := 6) rfl s2 Try.underlying32 rfl (fun w => Try.sizeOf30 w) rfl rfl ?_)
  intro a31 p31
  refine q_v p31.s rfl rfl rfl (g_loadA (l := [.int .i64 b.room, .slice rA b.rs.length rc, .slice xA b.xs.length xc]) rfl p31.v Try.isAgg30 Try.sizeOf30 rfl (box_part h_q2 rfl) ?_)
  intro a32 p32
  refine q_v p32.s rfl rfl rfl (g_move rfl (p32.k (p31.k s1 rfl) rfl) ?_)
  intro a33 p33
  refine q_v p33.s rfl rfl rfl ?_
  refine g_call rfl rfl Try.call79 (arr2 (p33.k p32.v rfl) p33.v) ?_
  refine (heldRecorder_any (k := (((k + ((b.ps.length : Nat) : Int)) + 3 * ((b.ls.length : Nat) : Int)) + 5 * ((b.os.length : Nat) : Int)) + 3 * ((b.ds.length : Nat) : Int)) _ (by omega) (by omega) (by omega) (by omega) (hr_r.below hB) (hr_x.below hB)).mono ?_
  rintro e w25 ⟨rfl, hb24⟩
  refine ⟨_, rfl, ?_⟩
  replace h_q2 := keep_below h_q2 hb24
  replace hB := hB.trans (hb24.mono hB.size)
  clear hb24
  intro a34 p34
  refine q_v p34.s rfl rfl rfl (g_assign rfl p34.v ?_)
  intro a35 p35
  refine wpList_nil ?_
  have kc30 := (((((Kps.nil a30).u p31).u p32).u p33).u p34).u p35
  replace s1 := p35.v
  replace s2 := kc30.k s2 rfl
  replace s4 := kc30.k s4 rfl
  clear kc30
  refine hK23 _ _ ?_
  clear hK23
  refine wp_seq_k fun K26 hK26 => ?_
  refine wp_seq_k fun K27 hK27 => ?_
  refine wp_region_lit ?_
  refine q_v p35.s rfl rfl rfl (g_move rfl s1 ?_)
  intro a36 p36
  refine q_v p36.s rfl rfl rfl (g_lss rfl p36.v rfl ?_)
  intro a37 p37
  have s34 : a37.eval (.tmp 34) = .bool false := (p37.v).trans (congrArg Value.bool (decide_eq_false (by omega)))
  refine wpList_nil ?_
  replace s1 := p37.k (p36.k s1 rfl) rfl
  replace s2 := p37.k (p36.k s2 rfl) rfl
  replace s4 := p37.k (p36.k s4 rfl) rfl
  refine hK27 _ _ ?_
  clear hK27
  refine c_false s34 ?_
  refine wp_skip ?_
  refine hK26 _ _ ?_
  clear hK26
  refine wp_seq_k fun K28 hK28 => ?_
  refine wp_region_lit ?_
  refine q_v p37.s rfl rfl rfl (g_field (r := 11) rfl s2 Try.underlying32 rfl (fun w => Try.sizeOf24 w) rfl rfl ?_)
  intro a38 p38
  refine q_v p38.s rfl rfl rfl (g_load rfl p38.v Try.isAgg24 (box_cell h_q2 rfl) ?_)
  intro a39 p39
  refine q_v p39.s rfl rfl rfl (g_move rfl (p39.k (p38.k s1 rfl) rfl) ?_)
  intro a40 p40
  refine q_v p40.s rfl rfl rfl ?_
  refine g_call rfl rfl Try.call75 (arr2 (p40.k p39.v rfl) p40.v) ?_
  refine (heldIntS_any _ _ _ _ _ (by omega) (by omega) (by omega) (hr_q.below hB)).mono ?_
  rintro e w' ⟨rfl, rfl⟩
  refine ⟨_, rfl, ?_⟩
  intro a41 p41
  refine q_v p41.s rfl rfl rfl (g_assign rfl p41.v ?_)
  intro a42 p42
  refine wpList_nil ?_
  replace s1 := p42.v
  replace s4 := p42.k (p41.k (p40.k (p39.k (p38.k s4 rfl) rfl) rfl) rfl) rfl
  refine hK28 _ _ ?_
  clear hK28
  refine wp_seq_k fun K30 hK30 => ?_
  refine wp_seq_k fun K31 hK31 => ?_
  refine wp_region_lit ?_
  refine q_v p42.s rfl rfl rfl (g_move rfl s1 ?_)
  intro a43 p43
  refine q_v p43.s rfl rfl rfl (g_lss rfl p43.v rfl ?_)
  intro a44 p44
  have s40 : a44.eval (.tmp 40) = .bool false := (p44.v).trans (congrArg Value.bool (decide_eq_false (by omega)))
  refine wpList_nil ?_
  replace s1 := p44.k (p43.k s1 rfl) rfl
  replace s4 := p44.k (p43.k s4 rfl) rfl
  refine hK31 _ _ ?_
  clear hK31
  refine c_false s40 ?_
  refine wp_skip ?_
  refine hK30 _ _ ?_
  clear hK30
  refine wp_seq_k fun K32 hK32 => ?_
  refine wp_region_lit ?_
  refine q_v p44.s rfl rfl rfl (g_move rfl s1 ?_)
  intro a45 p45
  refine q_v p45.s rfl rfl rfl (g_assign rfl p45.v ?_)
  intro a46 p46
  refine wpList_nil ?_
  replace s4 := p46.v
  refine hK32 _ _ ?_
  clear hK32
  refine wp_ret ?_
  try dsimp only [Exit.then, Exit.inBlock]
  refine ret1 p46.s Try.results32 (res_tmp s4) ?_
  exact ⟨by unfold mkN; congr 2; omega, hB⟩
end Go.Proofs.Ytoccapmoehdohaa
