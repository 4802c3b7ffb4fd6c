/- Contracts: the text of a small number; lists of texts that are alike. No condition. -/
import Derived.Test.YtpnejmlbfadaaaaFlowHead
import Derived.Test.YtpnejmlbfadaaaaFlowStr
import Derived.Test.YtpnejmlbfadaaaaFlowTxt
import Derived.Test.YtpnejmlbfadaaaaFlowQ
namespace Go.Proofs.Ytpnejmlbfadaaaa
open Go.RowKit
set_option linter.unusedSimpArgs false
set_option linter.unusedVariables false

section
variable {P : Program} {o : Oper} {ρ : Operand → Value} {w : World} {K : Value → World → Prop}
theorem g_convU {x : Operand} {S T : TypeId} {m : Int} (ho : o.op = .convert S T x) (hs : P.underlying S = some (.int .i64)) (ht : P.underlying T = some (.int .u8)) (hx : ρ x = .int .i64 m) (h0 : 0 ≤ m) (h1 : m ≤ 255) (h : K (.int .u8 m) w) : goesR P o ρ w K := by
  unfold goesR execOp
  simp only [ho]
  go_simp
  have e : IntKind.u8.wrap m = m := by
    simp only [IntKind.wrap]
    rw [show (2 : Int) ^ IntKind.u8.bits = 256 from rfl, if_neg (by simp [IntKind.signed])]
    omega
  try rw [e]
  exact h
theorem g_conv1 {x : Operand} {S T e : TypeId} {g : Nat} {m : Int} (ho : o.op = .convert S T x) (hx : ρ x = .slice (some ⟨g, 0, none⟩) 1 1) (hs : P.underlying S = some (.slice e)) (he : P.underlying e = some (.int .u8)) (hd : P.underlying T = some .string) (hr : w.heap[g]? = some (.cells #[.int .u8 m] e (0, 0))) (h : K (.string ⟨[UInt8.ofNat m.toNat].toArray⟩) w) : goesR P o ρ w K := by
  have hr2 := run_conv_own P w S e T hs he hd (base := 0) (c := 1) [m] (own_box_row hr (Nat.zero_le _) rfl (by decide) rfl)
  unfold goesR execOp
  simp only [ho, hx, Sem.run_bind, hr2, Sem.run_pure, Result.andThen_ok]
  exact h
theorem g_neqX {x y : Operand} {T T' : TypeId} {l m : List UInt8} (ho : o.op = .binOp .neq T x y T') (hx : ρ x = .string ⟨l.toArray⟩) (hy : ρ y = .string ⟨m.toArray⟩) (e : l = m) (h : K (.bool false) w) : goesR P o ρ w K := by
  subst e
  unfold goesR execOp
  simp only [ho]
  go_simp
  simpa using h
theorem g_quoN {x y : Operand} {T T' : TypeId} {m n : Int} {N M : Nat} (ho : o.op = .binOp .quo T x y T') (hx : ρ x = .int .i64 m) (hy : ρ y = .int .i64 n) (hm : m = (N : Int)) (hn : n = (M : Int)) (h0 : 0 < M) (hM : N ≤ 9223372036854775807) (h : K (.int .i64 ((N / M : Nat) : Int)) w) : goesR P o ρ w K := by
  subst hm hn
  unfold goesR execOp
  simp only [ho]
  have hl : N / M ≤ N := Nat.div_le_self _ _
  have e : (N : Int).tdiv (M : Int) = ((N / M : Nat) : Int) := by rw [Int.tdiv_eq_ediv_of_nonneg (by omega)]; rfl
  have hw : IntKind.i64.wrap ((N / M : Nat) : Int) = ((N / M : Nat) : Int) := by
    generalize N / M = q at hl ⊢
    exact IntWalk.i64_in _ (by omega)
  have hne : ¬ ((M : Int) = 0) := by omega
  go_simp
  simp_all
end
def digB (m : Nat) : UInt8 := UInt8.ofNat (48 + ((m % 10 : Nat) : Int)).toNat
def fmtF : Nat → Nat → List UInt8 → List UInt8
  | 0, _, l => l
  | f + 1, m, l => if m = 0 then l else fmtF f (m / 10) (digB m :: l)
theorem fmtF_end (f : Nat) (l : List UInt8) : fmtF f 0 l = l := by
  cases f with
  | zero => rfl
  | succ f => rfl
def fmtN (k : Nat) : List UInt8 := if k = 0 then [48] else fmtF 2 k []
theorem fmtN_zero {k : Nat} (h : k = 0) : [48] = fmtN k := by
  subst h
  rfl
theorem fmtN_len (k : Nat) (h : k < 100) : 1 ≤ (fmtN k).length ∧ (fmtN k).length ≤ 40 := by
  have h1 : (List.range 100).all (fun k => decide (1 ≤ (fmtN k).length) && decide ((fmtN k).length ≤ 40)) = true := by kernel_rfl
  have := List.all_eq_true.1 h1 k (List.mem_range.2 h)
  simpa using this
set_option maxRecDepth 100000 in
set_option maxHeartbeats 4000000 in
theorem figure_any {x : Int} (w : World) (h0 : 0 ≤ x) (h1 : x ≤ 9) :
    Calls Try.prog 64 #[.int .i64 x] w fun e w' => e = .returned (.int .u8 (48 + x)) ∧ w = w' := by
  refine enter 12 Try.func64 rfl rfl (Nat.le_of_ble_eq_true rfl) ?_
  intro a0 hs hargs
  have s0 : a0.eval (.tmp 0) = .int .i64 x := hargs 0 _ rfl
  clear hargs
  have hB : Below w.heap.size w w := Below.refl _ _
  refine wp_seq_k fun K1 hK1 => ?_
  refine wp_region_lit ?_
  refine q_v hs rfl rfl rfl (g_assign rfl rfl ?_)
  intro a1 p1
  have s2 : a1.eval (.tmp 2) = .int .u8 0 := p1.v
  refine wpList_nil ?_
  replace s0 := p1.k s0 rfl
  refine hK1 _ _ ?_
  clear hK1
  refine wp_seq_k fun K2 hK2 => ?_
  refine wp_seq_k fun K3 hK3 => ?_
  refine wp_region_lit ?_
  refine q_v p1.s rfl rfl rfl (g_move rfl s0 ?_)
  intro a2 p2
  refine q_v p2.s rfl rfl rfl (g_lss rfl p2.v rfl ?_)
  intro a3 p3
  have s4 : a3.eval (.tmp 4) = .bool true := (p3.v).trans (congrArg Value.bool (decide_eq_true (by omega)))
  refine wpList_nil ?_
  replace s0 := p3.k (p2.k s0 rfl) rfl
  replace s2 := p3.k (p2.k s2 rfl) rfl
  refine hK3 _ _ ?_
  clear hK3
  refine c_true s4 ?_
  refine wp_seq_k fun K4 hK4 => ?_
  refine wp_region_lit ?_
  refine q_v p3.s rfl rfl rfl (g_move rfl s0 ?_)
  intro a4 p4
  refine q_v p4.s rfl rfl rfl (g_add (r := 48 + x) rfl rfl p4.v (by omega) (by omega) ?_)
  intro a5 p5
  refine q_v p5.s rfl rfl rfl (g_convU rfl Try.underlying3 Try.underlying5 p5.v (by omega) (by omega) ?_)
  intro a6 p6
  refine q_v p6.s rfl rfl rfl (g_assign rfl p6.v ?_)
  intro a7 p7
  refine wpList_nil ?_
  replace s0 := p7.k (p6.k (p5.k (p4.k s0 rfl) rfl) rfl) rfl
  replace s2 := p7.v
  refine hK4 _ _ ?_
  clear hK4
  refine wp_ret ?_
  try dsimp only [Exit.then, Exit.inBlock]
  refine ret1 p7.s Try.results64 (res_tmp s2) ?_
  exact ⟨rfl, rfl⟩
set_option maxRecDepth 100000 in
set_option maxHeartbeats 4000000 in
theorem formatInt_any {k : Nat} (w : World) (hk : k < 100) :
    Calls Try.prog 30 #[.int .i64 ((k : Nat) : Int)] w fun e w' => e = .returned (.string ⟨(fmtN k).toArray⟩) ∧ Below w.heap.size w w' := by
  refine enter 30 Try.func30 rfl rfl (Nat.le_of_ble_eq_true rfl) ?_
  intro a0 hs hargs
  have s0 : a0.eval (.tmp 0) = .int .i64 ((k : Nat) : Int) := hargs 0 _ rfl
  clear hargs
  have hB : Below w.heap.size w w := Below.refl _ _
  refine wp_seq_k fun K1 hK1 => ?_
  refine wp_region_lit ?_
  refine q_v hs rfl rfl rfl (g_assign rfl rfl ?_)
  intro a1 p1
  have s2 : a1.eval (.tmp 2) = .string ⟨#[]⟩ := p1.v
  refine wpList_nil ?_
  replace s0 := p1.k s0 rfl
  refine hK1 _ _ ?_
  clear hK1
  refine wp_seq_k fun K2 hK2 => ?_
  refine wp_seq_k fun K3 hK3 => ?_
  refine wp_region_lit ?_
  refine q_v p1.s rfl rfl rfl (g_move rfl s0 ?_)
  intro a2 p2
  refine q_v p2.s rfl rfl rfl (g_eql rfl p2.v rfl ?_)
  intro a3 p3
  refine wpList_nil ?_
  replace s0 := p3.k (p2.k s0 rfl) rfl
  replace s2 := p3.k (p2.k s2 rfl) rfl
  replace s7 := p3.v
  refine hK3 _ _ ?_
  clear hK3
  by_cases hk0 : ((k : Nat) : Int) = 0
  · replace s7 : a3.eval (.tmp 7) = .bool true := (s7).trans (congrArg Value.bool (decide_eq_true hk0))
    refine c_true s7 ?_
    refine wp_seq_k fun K4 hK4 => ?_
    refine wp_region_lit ?_
    refine q_v p3.s rfl rfl rfl (g_assign rfl rfl ?_)
    intro a4 p4
    have s2 : a4.eval (.tmp 2) = .string ⟨([48]).toArray⟩ := p4.v
    refine wpList_nil ?_
    replace s0 := p4.k s0 rfl
    refine hK4 _ _ ?_
    clear hK4
    refine wp_ret ?_
    try dsimp only [Exit.then, Exit.inBlock]
    refine ret1 p4.s Try.results30 (res_tmp s2) ?_
    exact ⟨by rw [← fmtN_zero (show k = 0 by omega)], hB⟩
  replace s7 : a3.eval (.tmp 7) = .bool false := (s7).trans (congrArg Value.bool (decide_eq_false hk0))
  refine c_false s7 ?_
  refine wp_skip ?_
  refine hK2 _ _ ?_
  clear hK2
  refine wp_seq_k fun K5 hK5 => ?_
  refine wp_region_lit ?_
  refine q_v p3.s rfl rfl rfl (g_move rfl s0 ?_)
  intro a4 p4
  refine q_v p4.s rfl rfl rfl (g_lss rfl p4.v rfl ?_)
  intro a5 p5
  have s9 : a5.eval (.tmp 9) = .bool false := (p5.v).trans (congrArg Value.bool (decide_eq_false (by omega)))
  refine q_v p5.s rfl rfl rfl (g_assign rfl s9 ?_)
  intro a6 p6
  refine wpList_nil ?_
  have kc3 := (((Kps.nil a3).u p4).u p5).u p6
  replace s0 := kc3.k s0 rfl
  replace s2 := kc3.k s2 rfl
  replace s3 := p6.v
  clear kc3
  refine hK5 _ _ ?_
  clear hK5
  refine wp_seq_k fun K6 hK6 => ?_
  refine wp_region_lit ?_
  refine q_v p6.s rfl rfl rfl (g_assign rfl rfl ?_)
  intro a7 p7
  have s4 : a7.eval (.tmp 4) = .string ⟨#[]⟩ := p7.v
  refine wpList_nil ?_
  replace s0 := p7.k s0 rfl
  replace s2 := p7.k s2 rfl
  replace s3 := p7.k s3 rfl
  refine hK6 _ _ ?_
  clear hK6
  refine wp_seq_k fun K7 hK7 => ?_
  refine wp_block ?_
  refine wp_loop (fun a wr => ∃ (m : Nat) (f : Nat) (l : List UInt8), (St 30 a) ∧ (a.eval (.tmp 0) = .int .i64 ((m : Nat) : Int)) ∧ (a.eval (.tmp 2) = .string ⟨#[]⟩) ∧ (a.eval (.tmp 3) = .bool false) ∧ (a.eval (.tmp 4) = .string ⟨(l).toArray⟩) ∧ (Below w.heap.size w wr) ∧ (fmtF f m l = fmtN k) ∧ (m < 10 ^ f) ∧ (m < 100) ∧ (l.length + f ≤ 2)) (fun a _ => (intOf (a.eval (.tmp 0))).toNat) (⟨k, 2, [], p7.s, s0, s2, s3, s4, hB, (by unfold fmtN; rw [if_neg (by omega)]), (by omega), hk, (by decide)⟩) ?_
  intro a8 w9 hIv
  obtain ⟨m, f, l, hs, s0, s2, s3, s4, hB, hf, hm, hm1, hl⟩ := hIv
  have mu10 := s0
  refine wp_seq_k fun K11 hK11 => ?_
  refine wp_seq_k fun K12 hK12 => ?_
  refine wp_region_lit ?_
  refine q_v hs rfl rfl rfl (g_move rfl s0 ?_)
  intro a9 p9
  refine q_v p9.s rfl rfl rfl (g_neq rfl p9.v rfl ?_)
  intro a10 p10
  refine wpList_nil ?_
  replace s0 := p10.k (p9.k s0 rfl) rfl
  replace s2 := p10.k (p9.k s2 rfl) rfl
  replace s3 := p10.k (p9.k s3 rfl) rfl
  replace s4 := p10.k (p9.k s4 rfl) rfl
  replace s11 := p10.v
  refine hK12 _ _ ?_
  clear hK12
  by_cases hc13 : ((m : Nat) : Int) = 0
  · replace s11 : a10.eval (.tmp 11) = .bool false := (s11).trans (congrArg (fun b => Value.bool (!b)) (decide_eq_true hc13))
    refine c_false s11 ?_
    refine wp_exit ?_
    refine hK7 _ _ ?_
    clear hK7
    refine wp_seq_k fun K14 hK14 => ?_
    refine wp_seq_k fun K15 hK15 => ?_
    have hmz : m = 0 := by omega
    subst hmz
    rw [fmtF_end] at hf
    subst hf
    refine wp_region_lit ?_
    refine q_v p10.s rfl rfl rfl (g_move rfl s3 ?_)
    intro a11 p11
    refine wpList_nil ?_
    replace s2 := p11.k s2 rfl
    replace s4 := p11.k s4 rfl
    replace s26 := p11.v
    refine hK15 _ _ ?_
    clear hK15
    refine c_false s26 ?_
    refine wp_skip ?_
    refine hK14 _ _ ?_
    clear hK14
    refine wp_seq_k fun K16 hK16 => ?_
    refine wp_region_lit ?_
    refine q_v p11.s rfl rfl rfl (g_move rfl s4 ?_)
    intro a12 p12
    refine q_v p12.s rfl rfl rfl (g_assign rfl p12.v ?_)
    intro a13 p13
    refine wpList_nil ?_
    replace s2 := p13.v
    refine hK16 _ _ ?_
    clear hK16
    refine wp_ret ?_
    try dsimp only [Exit.then, Exit.inBlock]
    refine ret1 p13.s Try.results30 (res_tmp s2) ?_
    exact ⟨rfl, hB⟩
  replace s11 : a10.eval (.tmp 11) = .bool true := (s11).trans (congrArg (fun b => Value.bool (!b)) (decide_eq_false hc13))
  refine c_true s11 ?_
  refine wp_skip ?_
  refine hK11 _ _ ?_
  clear hK11
  refine wp_block ?_
  refine wp_seq_k fun K17 hK17 => ?_
  have hm0 : m ≠ 0 := by omega
  have hf0 : f ≠ 0 := fun e => by rw [e] at hm; omega
  obtain ⟨g, rfl⟩ : ∃ g, f = g + 1 := ⟨f - 1, by omega⟩
  have hm10 : m < 10 ^ g * 10 := by rw [← Nat.pow_succ]; exact hm
  refine wp_region_lit ?_
  refine q_v p10.s rfl rfl rfl (g_move rfl s0 ?_)
  intro a11 p11
  refine q_v p11.s rfl rfl rfl (g_rem (N := m) (M := 10) rfl p11.v rfl (by omega) rfl (by decide) (by decide) ?_)
  intro a12 p12
  refine q_v p12.s rfl rfl rfl (g_assign rfl p12.v ?_)
  intro a13 p13
  refine wpList_nil ?_
  have kc10 := (((Kps.nil a10).u p11).u p12).u p13
  replace s0 := kc10.k s0 rfl
  replace s2 := kc10.k s2 rfl
  replace s3 := kc10.k s3 rfl
  replace s4 := kc10.k s4 rfl
  replace s11 := kc10.k s11 rfl
  replace s5 := p13.v
  clear kc10
  refine hK17 _ _ ?_
  clear hK17
  refine wp_seq_k fun K18 hK18 => ?_
  refine wp_seq_k fun K19 hK19 => ?_
  refine wp_region_lit ?_
  refine q_v p13.s rfl rfl rfl (g_move rfl s5 ?_)
  intro a14 p14
  refine q_v p14.s rfl rfl rfl (g_lss rfl p14.v rfl ?_)
  intro a15 p15
  have s15 : a15.eval (.tmp 15) = .bool false := (p15.v).trans (congrArg Value.bool (decide_eq_false (by omega)))
  refine wpList_nil ?_
  replace s0 := p15.k (p14.k s0 rfl) rfl
  replace s2 := p15.k (p14.k s2 rfl) rfl
  replace s3 := p15.k (p14.k s3 rfl) rfl
  replace s4 := p15.k (p14.k s4 rfl) rfl
  replace s11 := p15.k (p14.k s11 rfl) rfl
  replace s5 := p15.k (p14.k s5 rfl) rfl
  refine hK19 _ _ ?_
  clear hK19
  refine c_false s15 ?_
  refine wp_skip ?_
  refine hK18 _ _ ?_
  clear hK18
  refine wp_seq_k fun K20 hK20 => ?_
  refine wp_region_lit ?_
  refine q_v p15.s rfl rfl rfl (g_move rfl s5 ?_)
  intro a16 p16
  refine q_v p16.s rfl rfl rfl ?_
  refine g_call rfl rfl Try.call64 (arr1 p16.v) ?_
  refine (figure_any _ (by omega) (by omega)).mono ?_
  rintro e w' ⟨rfl, rfl⟩
  refine ⟨_, rfl, ?_⟩
  intro a17 p17
  refine q_v p17.s rfl rfl rfl ?_
  refine g_bslice1 (cs := #[.int .u8 (48 + (((m) % 10 : Nat) : Int))]) rfl Try.underlying35 Try.sizeOf5 Try.zeroValue5 p17.v (by kernel_rfl) rfl (by decide) ?_
  intro q21 w22 N_q21
  replace hB := below_new hB hB.size N_q21
  have h_q21 := N_q21.here
  clear N_q21
  intro a18 p18
  refine q_v p18.s rfl rfl rfl (g_conv1 rfl p18.v Try.underlying35 Try.underlying5 Try.underlying9 h_q21 ?_)
  intro a19 p19
  refine q_v p19.s rfl rfl rfl (g_move rfl (p19.k (p18.k (p17.k (p16.k s4 rfl) rfl) rfl) rfl) ?_)
  intro a20 p20
  refine q_v p20.s rfl rfl rfl (g_concat rfl (p20.k p19.v rfl) p20.v (by simp only [List.length_cons, List.length_nil]; omega) ?_)
  intro a21 p21
  refine q_v p21.s rfl rfl rfl (g_assign rfl p21.v ?_)
  intro a22 p22
  refine wpList_nil ?_
  have kc15 := (((((((Kps.nil a15).u p16).u p17).u p18).u p19).u p20).u p21).u p22
  replace s0 := kc15.k s0 rfl
  replace s2 := kc15.k s2 rfl
  replace s3 := kc15.k s3 rfl
  replace s4 := p22.v
  replace s11 := kc15.k s11 rfl
  replace s5 := kc15.k s5 rfl
  replace s15 := kc15.k s15 rfl
  clear kc15
  refine hK20 _ _ ?_
  clear hK20
  refine wp_region_lit ?_
  refine q_v p22.s rfl rfl rfl (g_move rfl s0 ?_)
  intro a23 p23
  refine q_v p23.s rfl rfl rfl (g_quoN (N := m) (M := 10) rfl p23.v rfl rfl rfl (by decide) (by omega) ?_)
  intro a24 p24
  refine q_v p24.s rfl rfl rfl (g_assign rfl p24.v ?_)
  intro a25 p25
  refine wpList_nil ?_
  have kc22 := (((Kps.nil a22).u p23).u p24).u p25
  replace s0 := p25.v
  replace s2 := kc22.k s2 rfl
  replace s3 := kc22.k s3 rfl
  replace s4 := kc22.k s4 rfl
  replace s11 := kc22.k s11 rfl
  replace s5 := kc22.k s5 rfl
  replace s15 := kc22.k s15 rfl
  clear kc22
  refine show _ ∧ _ from ⟨⟨m / 10, g, [UInt8.ofNat (48 + ((m % 10 : Nat) : Int)).toNat] ++ l, p25.s, s0, s2, s3, s4, hB, (by rw [fmtF, if_neg (by omega)] at hf; exact hf), (by omega), (by omega), (by simp only [List.length_append, List.length_cons, List.length_nil]; omega)⟩, ?_⟩
  show (intOf (a25.eval (.tmp 0))).toNat < (intOf (a8.eval (.tmp 0))).toNat
  rw [s0, mu10]
  simp only [intOf]
  omega
set_option maxRecDepth 100000 in
set_option maxHeartbeats 4000000 in
theorem sameTexts_same {A : Option Addr} {n c : Nat} {B : Option Addr} {m d : Nat} {xs ys : List (List UInt8)} (w : World) (hxy : xs = ys) (hn : xs.length = n) (hm : ys.length = m) (hb : n ≤ 1048576) (hr_x : Rd w 1 A n (xs.flatMap cS)) (hr_y : Rd w 1 B m (ys.flatMap cS)) :
    Calls Try.prog 35 #[.slice A n c, .slice B m d] w fun e w' => e = .returned (.bool true) ∧ Below w.heap.size w w' := by
  subst hxy
  refine enter 26 Try.func35 rfl rfl (Nat.le_of_ble_eq_true rfl) ?_
  intro a0 hs hargs
  have s0 : a0.eval (.tmp 0) = .slice A n c := hargs 0 _ rfl
  have s1 : a0.eval (.tmp 1) = .slice B m d := hargs 1 _ rfl
  clear hargs
  have hB : Below w.heap.size w w := Below.refl _ _
  refine wp_seq_k fun K1 hK1 => ?_
  refine wp_region_lit ?_
  refine q_v hs rfl rfl rfl (g_assign rfl rfl ?_)
  intro a1 p1
  have s4 : a1.eval (.tmp 4) = .bool false := p1.v
  refine wpList_nil ?_
  replace s0 := p1.k s0 rfl
  replace s1 := p1.k s1 rfl
  refine hK1 _ _ ?_
  clear hK1
  refine wp_seq_k fun K2 hK2 => ?_
  refine wp_seq_k fun K3 hK3 => ?_
  refine wp_region_lit ?_
  refine q_v p1.s rfl rfl rfl (g_move rfl s0 ?_)
  intro a2 p2
  refine q_v p2.s rfl rfl rfl (g_len (e := _) rfl Try.underlying43 p2.v ?_)
  intro a3 p3
  refine q_v p3.s rfl rfl rfl (g_move rfl (p3.k (p2.k s1 rfl) rfl) ?_)
  intro a4 p4
  refine q_v p4.s rfl rfl rfl (g_len (e := _) rfl Try.underlying43 p4.v ?_)
  intro a5 p5
  refine q_v p5.s rfl rfl rfl (g_neq rfl (p5.k (p4.k p3.v rfl) rfl) p5.v ?_)
  intro a6 p6
  have s10 : a6.eval (.tmp 10) = .bool false := (p6.v).trans (congrArg (fun b => Value.bool (!b)) (decide_eq_true (by omega)))
  refine wpList_nil ?_
  have kc1 := (((((Kps.nil a1).u p2).u p3).u p4).u p5).u p6
  replace s0 := kc1.k s0 rfl
  replace s1 := kc1.k s1 rfl
  replace s4 := kc1.k s4 rfl
  clear kc1
  refine hK3 _ _ ?_
  clear hK3
  refine c_false s10 ?_
  refine wp_skip ?_
  refine hK2 _ _ ?_
  clear hK2
  refine wp_seq_k fun K4 hK4 => ?_
  refine wp_seq_k fun K5 hK5 => ?_
  refine wp_region_lit ?_
  refine q_v p6.s rfl rfl rfl (g_assign rfl rfl ?_)
  intro a7 p7
  have s5 : a7.eval (.tmp 5) = .int .i64 0 := p7.v
  refine wpList_nil ?_
  replace s0 := p7.k s0 rfl
  replace s1 := p7.k s1 rfl
  replace s4 := p7.k s4 rfl
  refine hK5 _ _ ?_
  clear hK5
  refine wp_block ?_
  refine wp_loop (fun a wr => ∃ (k : Nat), (St 26 a) ∧ (a.eval (.tmp 0) = .slice A n c) ∧ (a.eval (.tmp 1) = .slice B m d) ∧ (a.eval (.tmp 4) = .bool false) ∧ (a.eval (.tmp 5) = .int .i64 ((k : Nat) : Int)) ∧ (Below w.heap.size w wr) ∧ (k ≤ n)) (fun a _ => n - (intOf (a.eval (.tmp 5))).toNat) (⟨0, p7.s, s0, s1, s4, s5, hB, Nat.zero_le _⟩) ?_
  intro a8 w7 hIv
  obtain ⟨k, hs, s0, s1, s4, s5, hB, hk⟩ := hIv
  have mu8 := s5
  refine wp_seq_k fun K9 hK9 => ?_
  refine wp_seq_k fun K10 hK10 => ?_
  refine wp_region_lit ?_
  refine q_v hs rfl rfl rfl (g_move rfl s5 ?_)
  intro a9 p9
  refine q_v p9.s rfl rfl rfl (g_move rfl (p9.k s0 rfl) ?_)
  intro a10 p10
  refine q_v p10.s rfl rfl rfl (g_len (e := _) rfl Try.underlying43 p10.v ?_)
  intro a11 p11
  refine q_v p11.s rfl rfl rfl (g_lss rfl (p11.k (p10.k p9.v rfl) rfl) p11.v ?_)
  intro a12 p12
  refine wpList_nil ?_
  have kc8 := ((((Kps.nil a8).u p9).u p10).u p11).u p12
  replace s0 := kc8.k s0 rfl
  replace s1 := kc8.k s1 rfl
  replace s4 := kc8.k s4 rfl
  replace s5 := kc8.k s5 rfl
  replace s14 := p12.v
  clear kc8
  refine hK10 _ _ ?_
  clear hK10
  by_cases hc11 : ((k : Nat) : Int) < ((n : Nat) : Int)
  · replace s14 : a12.eval (.tmp 14) = .bool true := (s14).trans (congrArg Value.bool (decide_eq_true hc11))
    refine c_true s14 ?_
    refine wp_skip ?_
    refine hK9 _ _ ?_
    clear hK9
    refine wp_seq_k fun K12 hK12 => ?_
    refine wp_block ?_
    refine wp_seq_k fun K13 hK13 => ?_
    have hlt : k < xs.length := by omega
    have hs := p12.s
    obtain ⟨b14, o15, hA16, hl_hc17, hc17⟩ := Rd.get cS_len (hr_x.below hB) (Eq.symm hn) (i := k) (by omega)
    obtain ⟨b18, o19, hA20, hl_hc21, hc21⟩ := Rd.get cS_len (hr_y.below hB) (Eq.symm hm) (i := k) (by omega)
    refine wp_drawn (n := 26) [] [] [] (fun k_ v_ _wx => match k_ with | 0 => v_ = .slice A n c | 1 => v_ = .int .i64 ((k : Nat) : Int) | 2 => v_ = .pointer (some ⟨b14, o15 + k * 1, none⟩) | 3 => v_ = .string ⟨(xs[k]).toArray⟩ | 4 => v_ = .slice B m d | 5 => v_ = .int .i64 ((k : Nat) : Int) | 6 => v_ = .pointer (some ⟨b18, o19 + k * 1, none⟩) | 7 => v_ = .string ⟨(xs[k]).toArray⟩ | 8 => v_ = .bool false | _ => True) (by kernel_rfl) (by kernel_rfl) (by kernel_rfl) (by kernel_rfl) hs.size ?_ ?_ ?_
    · intro i v wa wb hb hr
      rcases i with _ | _ | _ | _ | _ | _ | _ | _ | _ | i
      · exact hr
      · exact hr
      · exact hr
      · exact hr
      · exact hr
      · exact hr
      · exact hr
      · exact hr
      · exact hr
      · trivial
    · refine d_step rfl rfl ?_ (d_step rfl rfl ?_ (d_step rfl rfl ?_ (d_step rfl rfl ?_ (d_step rfl rfl ?_ (d_step rfl rfl ?_ (d_step rfl rfl ?_ (d_step rfl rfl ?_ (d_step rfl rfl ?_ (d_nil)))))))))
      · intro xv_ wx ρ hρ hwx hd K hK
        have e0 : ρ (.tmp 0) = .slice A n c := (hρ.inn 0 rfl).trans s0
        refine g_move rfl e0 ?_
        exact hK _ _ (Below.refl _ _) rfl
      · intro xv_ wx ρ hρ hwx hd K hK
        have e5 : ρ (.tmp 5) = .int .i64 ((k : Nat) : Int) := (hρ.inn 5 rfl).trans s5
        refine g_move rfl e5 ?_
        exact hK _ _ (Below.refl _ _) rfl
      · intro xv_ wx ρ hρ hwx hd K hK
        have e17 := (out2 hρ hs 0 17 rfl rfl rfl).trans (hd 0 rfl)
        have e18 := (out2 hρ hs 1 18 rfl rfl rfl).trans (hd 1 rfl)
        refine g_index (r := o15 + k * 1) (k := k) rfl (e17.trans (slice_at hA16)) e18 Try.underlying43 (fun w => Try.sizeOf9 w) (by omega) rfl ?_
        exact hK _ _ (Below.refl _ _) rfl
      · intro xv_ wx ρ hρ hwx hd K hK
        have e19 := (out2 hρ hs 2 19 rfl rfl rfl).trans (hd 2 rfl)
        have hc17 := elem_below hc17 hwx hl_hc17
        refine g_load rfl e19 Try.isAgg9 (by first | exact hc17 0 _ (by decide) rfl | (rw [Nat.add_assoc]; exact hc17 0 _ (by decide) rfl)) ?_
        exact hK _ _ (Below.refl _ _) rfl
      · intro xv_ wx ρ hρ hwx hd K hK
        have e1 : ρ (.tmp 1) = .slice B m d := (hρ.inn 1 rfl).trans s1
        refine g_move rfl e1 ?_
        exact hK _ _ (Below.refl _ _) rfl
      · intro xv_ wx ρ hρ hwx hd K hK
        have e5 : ρ (.tmp 5) = .int .i64 ((k : Nat) : Int) := (hρ.inn 5 rfl).trans s5
        refine g_move rfl e5 ?_
        exact hK _ _ (Below.refl _ _) rfl
      · intro xv_ wx ρ hρ hwx hd K hK
        have e21 := (out2 hρ hs 4 21 rfl rfl rfl).trans (hd 4 rfl)
        have e22 := (out2 hρ hs 5 22 rfl rfl rfl).trans (hd 5 rfl)
        refine g_index (r := o19 + k * 1) (k := k) rfl (e21.trans (slice_at hA20)) e22 Try.underlying43 (fun w => Try.sizeOf9 w) (by omega) rfl ?_
        exact hK _ _ (Below.refl _ _) rfl
      · intro xv_ wx ρ hρ hwx hd K hK
        have e23 := (out2 hρ hs 6 23 rfl rfl rfl).trans (hd 6 rfl)
        have hc21 := elem_below hc21 hwx hl_hc21
        refine g_load rfl e23 Try.isAgg9 (by first | exact hc21 0 _ (by decide) rfl | (rw [Nat.add_assoc]; exact hc21 0 _ (by decide) rfl)) ?_
        exact hK _ _ (Below.refl _ _) rfl
      · intro xv_ wx ρ hρ hwx hd K hK
        have e20 := (out2 hρ hs 3 20 rfl rfl rfl).trans (hd 3 rfl)
        have e24 := (out2 hρ hs 7 24 rfl rfl rfl).trans (hd 7 rfl)
        refine g_neqX rfl e20 e24 rfl ?_
        exact hK _ _ (Below.refl _ _) rfl
    · intro x0_ w22 hb_w22 hr0
      replace hB := hB.trans (hb_w22.mono hB.size)
      clear hb_w22
      intro xv_ a13 hρ hsz hdf qx_ ql_ qk_ qlk_
      replace s0 : a13.eval (.tmp 0) = .slice A n c := (hρ.inn 0 rfl).trans s0
      replace s1 : a13.eval (.tmp 1) = .slice B m d := (hρ.inn 1 rfl).trans s1
      replace s4 : a13.eval (.tmp 4) = .bool false := (hρ.inn 4 rfl).trans s4
      replace s5 : a13.eval (.tmp 5) = .int .i64 ((k : Nat) : Int) := (hρ.inn 5 rfl).trans s5
      replace s14 : a13.eval (.tmp 14) = .bool true := (hρ.inn 14 rfl).trans s14
      have s25 : a13.eval (.tmp 25) = .bool false := (hρ.out 8 25 rfl (by rw [hs.size]; decide)).trans ((qx_ 8 (by decide) rfl rfl).trans (hr0 8 (by decide) rfl rfl))
      replace hs : St 26 a13 := ⟨hsz.trans hs.size, hdf.trans hs.nodef⟩
      clear hρ hsz hdf qx_ ql_ qk_ qlk_
      refine hK13 _ _ ?_
      clear hK13
      refine c_false s25 ?_
      refine wp_skip ?_
      refine hK12 _ _ ?_
      clear hK12
      refine wp_region_lit ?_
      refine q_v hs rfl rfl rfl (g_move rfl s5 ?_)
      intro a14 p14
      refine q_v p14.s rfl rfl rfl (g_add (r := ((k + 1 : Nat) : Int)) rfl p14.v rfl (by omega) (by omega) ?_)
      intro a15 p15
      refine q_v p15.s rfl rfl rfl (g_assign rfl p15.v ?_)
      intro a16 p16
      refine wpList_nil ?_
      have kc13 := (((Kps.nil a13).u p14).u p15).u p16
      replace s0 := kc13.k s0 rfl
      replace s1 := kc13.k s1 rfl
      replace s4 := kc13.k s4 rfl
      replace s5 := p16.v
      replace s14 := kc13.k s14 rfl
      replace s25 := kc13.k s25 rfl
      clear kc13
      refine show _ ∧ _ from ⟨⟨k + 1, p16.s, s0, s1, s4, s5, hB, (by omega)⟩, ?_⟩
      show n - (intOf (a16.eval (.tmp 5))).toNat < n - (intOf (a8.eval (.tmp 5))).toNat
      rw [s5, mu8]
      simp only [intOf]
      omega
  replace s14 : a12.eval (.tmp 14) = .bool false := (s14).trans (congrArg Value.bool (decide_eq_false hc11))
  refine c_false s14 ?_
  refine wp_exit ?_
  refine hK4 _ _ ?_
  clear hK4
  refine wp_seq_k fun K23 hK23 => ?_
  refine wp_region_lit ?_
  refine q_v p12.s rfl rfl rfl (g_assign rfl rfl ?_)
  intro a13 p13
  have s4 : a13.eval (.tmp 4) = .bool true := p13.v
  refine wpList_nil ?_
  refine hK23 _ _ ?_
  clear hK23
  refine wp_ret ?_
  try dsimp only [Exit.then, Exit.inBlock]
  refine ret1 p13.s Try.results35 (res_tmp s4) ?_
  exact ⟨rfl, hB⟩
end Go.Proofs.Ytpnejmlbfadaaaa
