/- Contract: slices.Insert of one waiting order into a row of the call's own. No condition. -/
import Derived.Test.YtoccapmoehdohaaInsLaw
import Derived.Test.YtoccapmoehdohaaWaitingRow
namespace Go.Proofs.Ytoccapmoehdohaa
open Go.RowKit
set_option linter.unusedSimpArgs false
set_option linter.unusedVariables false

theorem own_cells {w : World} {n g size : Nat} {e : TypeId} {α : Type} {f : α → List Value} (_hf : ∀ r, (f r).length = size) {xs : List α} {cur : Array Value} (hh : w.heap[g]? = some (.cells cur e (0, 0))) (ht : cur.toList.take (n * size) = xs.flatMap f) : ∀ j v, (xs.flatMap f)[j]? = some v → w.cell? ⟨g, j, none⟩ = some v := fun j v hj => by
  rw [cell_of_row w g j cur e (0, 0) hh]
  rw [← ht, List.getElem?_take] at hj
  split at hj
  · simpa using hj
  · cases hj
theorem drop_cells {w : World} {g i size : Nat} {α : Type} {f : α → List Value} (hf : ∀ r, (f r).length = size) {xs : List α} (hi : i ≤ xs.length) (h : ∀ j v, (xs.flatMap f)[j]? = some v → w.cell? ⟨g, j, none⟩ = some v) : ∀ j v, ((xs.drop i).flatMap f)[j]? = some v → w.cell? ⟨g, i * size + j, none⟩ = some v := fun j v hj => by
  refine h _ _ ?_
  have hP : ((xs.take i).flatMap f).length = i * size := by rw [flatMap_length f size hf, List.length_take, Nat.min_eq_left hi]
  have hos : xs.flatMap f = (xs.take i).flatMap f ++ (xs.drop i).flatMap f := by rw [← List.flatMap_append, List.take_append_drop]
  rw [hos, List.getElem?_append_right (by omega), hP, Nat.add_sub_cancel_left]
  exact hj
theorem take_cells {w : World} {g i : Nat} {α : Type} {f : α → List Value} {xs : List α} (h : ∀ j v, (xs.flatMap f)[j]? = some v → w.cell? ⟨g, j, none⟩ = some v) : ∀ j v, ((xs.take i).flatMap f)[j]? = some v → w.cell? ⟨g, j, none⟩ = some v := fun j v hj => by
  refine h _ _ ?_
  have hos : xs.flatMap f = (xs.take i).flatMap f ++ (xs.drop i).flatMap f := by rw [← List.flatMap_append, List.take_append_drop]
  rw [hos, List.getElem?_append_left (List.getElem?_eq_some_iff.1 hj).1]
  exact hj
theorem box_cells {w : World} {q : Nat} {l : List Value} {e : TypeId} (hh : w.heap[q]? = some (.cells l.toArray e (0, 0))) : ∀ j v, l[j]? = some v → w.cell? ((⟨q, 0, none⟩ : Addr).add j) = some v := fun j v hj => by
  rw [Addr.add_lit, Nat.zero_add, cell_of_row w q j _ e (0, 0) hh]
  simpa using hj
theorem copy_word {w : World} {q : Nat} {l : List Value} {e : TypeId} (hh : w.heap[q]? = some (.cells l.toArray e (0, 0))) : w.shape? q = some (e, l.length) ∧ w.frozen? ⟨q, 0, none⟩ = false ∧ w.frozen? ⟨q, l.length, none⟩ = false := by
  simp [World.shape?, World.frozen?, hh]
theorem cur_cells {w : World} {q : Nat} {cur : Array Value} {e : TypeId} (hh : w.heap[q]? = some (.cells cur e (0, 0))) : w.shape? q = some (e, cur.size) := by
  simp [World.shape?, hh]
theorem infoW5 : (Try.prog.info? 45).map (·.size) = some 5 := by kernel_rfl
set_option maxRecDepth 100000 in
set_option maxHeartbeats 4000000 in
theorem insertWaiting_any {base : Nat} {A : Option Addr} {c k q : Nat} {os : List EWaiting} {x : EWaiting} (w : World) (hk : k ≤ os.length) (hb : os.length ≤ 1048576) (h_q : w.heap[q]? = some (.cells (cWaiting x).toArray 45 (0, 0))) (hne : A.map (·.block) ≠ some q) (hbase : base ≤ w.heap.size) (o_z : w.ownsRow base 45 5 (.slice A os.length c) os.length (os.flatMap cWaiting)) :
    Calls Try.prog 42 #[.slice A os.length c, .int .i64 ((k : Nat) : Int), .slice (some ⟨q, 0, none⟩) 1 1] w fun e w' => ∃ A' c', e = .returned (.slice A' (os.length + 1) c') ∧ Apped w w' base 45 5 A A' (os.length + 1) c' ((insL os k x).flatMap cWaiting) := by
  refine enter 95 Try.func42 rfl rfl (Nat.le_of_ble_eq_true rfl) ?_
  intro a0 hs hargs
  have s0 : a0.eval (.tmp 0) = .slice A os.length c := hargs 0 _ rfl
  have s1 : a0.eval (.tmp 1) = .int .i64 ((k : Nat) : Int) := hargs 1 _ rfl
  have s2 : a0.eval (.tmp 2) = .slice (some ⟨q, 0, none⟩) 1 1 := hargs 2 _ rfl
  clear hargs
  have hnc := (own_cap o_z).1
  refine wp_seq_k fun K1 hK1 => ?_
  refine wp_region_lit ?_
  refine q_v hs rfl rfl rfl (g_assign rfl rfl ?_)
  intro a1 p1
  have s6 : a1.eval (.tmp 6) = .slice none 0 0 := p1.v
  refine wpList_nil ?_
  replace s0 := p1.k s0 rfl
  replace s1 := p1.k s1 rfl
  replace s2 := p1.k s2 rfl
  refine hK1 _ _ ?_
  clear hK1
  refine wp_seq_k fun K2 hK2 => ?_
  refine wp_region_lit ?_
  refine q_v p1.s rfl rfl rfl (g_move rfl s0 ?_)
  intro a2 p2
  refine q_v p2.s rfl rfl rfl (g_move rfl (p2.k s1 rfl) ?_)
  intro a3 p3
  refine q_v p3.s rfl rfl rfl ?_
  refine g_tail (k := k) rfl (p3.k p2.v rfl) p3.v Try.underlying26 (fun w => Try.sizeOf45 w) (by omega) hnc rfl rfl ?_
  intro A0 T0
  intro a4 p4
  refine wpList_nil ?_
  have kc1 := (((Kps.nil a1).u p2).u p3).u p4
  replace s0 := kc1.k s0 rfl
  replace s1 := kc1.k s1 rfl
  replace s2 := kc1.k s2 rfl
  replace s6 := kc1.k s6 rfl
  clear kc1
  refine hK2 _ _ ?_
  clear hK2
  refine wp_seq_k fun K3 hK3 => ?_
  refine wp_region_lit ?_
  refine q_v p4.s rfl rfl rfl (g_move rfl s2 ?_)
  intro a5 p5
  refine q_v p5.s rfl rfl rfl (g_len (e := _) rfl Try.underlying26 p5.v ?_)
  intro a6 p6
  refine q_v p6.s rfl rfl rfl (g_assign rfl p6.v ?_)
  intro a7 p7
  refine wpList_nil ?_
  have kc4 := (((Kps.nil a4).u p5).u p6).u p7
  replace s0 := kc4.k s0 rfl
  replace s1 := kc4.k s1 rfl
  replace s2 := kc4.k s2 rfl
  replace s6 := kc4.k s6 rfl
  replace s7 := p7.v
  clear kc4
  refine hK3 _ _ ?_
  clear hK3
  refine wp_seq_k fun K4 hK4 => ?_
  refine wp_seq_k fun K5 hK5 => ?_
  refine wp_region_lit ?_
  refine q_v p7.s rfl rfl rfl (g_move rfl s7 ?_)
  intro a8 p8
  refine q_v p8.s rfl rfl rfl (g_eql rfl p8.v rfl ?_)
  intro a9 p9
  have s16 : a9.eval (.tmp 16) = .bool false := (p9.v).trans (congrArg Value.bool rfl)
  refine wpList_nil ?_
  replace s0 := p9.k (p8.k s0 rfl) rfl
  replace s1 := p9.k (p8.k s1 rfl) rfl
  replace s2 := p9.k (p8.k s2 rfl) rfl
  replace s6 := p9.k (p8.k s6 rfl) rfl
  replace s7 := p9.k (p8.k s7 rfl) rfl
  refine hK5 _ _ ?_
  clear hK5
  refine c_false s16 ?_
  refine wp_skip ?_
  refine hK4 _ _ ?_
  clear hK4
  refine wp_seq_k fun K6 hK6 => ?_
  refine wp_region_lit ?_
  refine q_v p9.s rfl rfl rfl (g_move rfl s0 ?_)
  intro a10 p10
  refine q_v p10.s rfl rfl rfl (g_len (e := _) rfl Try.underlying26 p10.v ?_)
  intro a11 p11
  refine q_v p11.s rfl rfl rfl (g_assign rfl p11.v ?_)
  intro a12 p12
  refine wpList_nil ?_
  have kc9 := (((Kps.nil a9).u p10).u p11).u p12
  replace s0 := kc9.k s0 rfl
  replace s1 := kc9.k s1 rfl
  replace s2 := kc9.k s2 rfl
  replace s6 := kc9.k s6 rfl
  replace s7 := kc9.k s7 rfl
  replace s8 := p12.v
  clear kc9
  refine hK6 _ _ ?_
  clear hK6
  refine wp_seq_k fun K7 hK7 => ?_
  refine wp_seq_k fun K8 hK8 => ?_
  refine wp_region_lit ?_
  refine q_v p12.s rfl rfl rfl (g_move rfl s1 ?_)
  intro a13 p13
  refine q_v p13.s rfl rfl rfl (g_move rfl (p13.k s8 rfl) ?_)
  intro a14 p14
  refine q_v p14.s rfl rfl rfl (g_eql rfl (p14.k p13.v rfl) p14.v ?_)
  intro a15 p15
  refine wpList_nil ?_
  have kc12 := (((Kps.nil a12).u p13).u p14).u p15
  replace s0 := kc12.k s0 rfl
  replace s1 := kc12.k s1 rfl
  replace s2 := kc12.k s2 rfl
  replace s6 := kc12.k s6 rfl
  replace s7 := kc12.k s7 rfl
  replace s8 := kc12.k s8 rfl
  replace s22 := p15.v
  clear kc12
  refine hK8 _ _ ?_
  clear hK8
  by_cases hend : ((k : Nat) : Int) = ((os.length : Nat) : Int)
  · replace s22 : a15.eval (.tmp 22) = .bool true := (s22).trans (congrArg Value.bool (decide_eq_true hend))
    refine c_true s22 ?_
    refine wp_seq_k fun K9 hK9 => ?_
    refine wp_region_lit ?_
    refine q_v p15.s rfl rfl rfl (g_move rfl s0 ?_)
    intro a16 p16
    refine q_v p16.s rfl rfl rfl (g_move rfl (p16.k s2 rfl) ?_)
    intro a17 p17
    refine q_v p17.s rfl rfl rfl ?_
    refine g_append (n' := os.length + 1) (ys := (os ++ [x]).flatMap cWaiting) base (.agg #[.int .i64 0, .int .i64 0, .int .i64 0, .int .i64 0, .int .i64 0]) 5 40 rfl (p17.k p16.v rfl) p17.v Try.underlying26 infoWaiting rfl (by decide) o_z (fun h => by cases h) (rd_box (xs := ([x]).flatMap cWaiting) h_q rfl rfl) (flatWaiting_one _) (by omega) hbase (by decide) rfl (by simp [List.flatMap_append]) ?_
    intro A2 c2 w9 PN
    intro a18 p18
    refine q_v p18.s rfl rfl rfl (g_assign rfl p18.v ?_)
    intro a19 p19
    refine wpList_nil ?_
    have kc15 := ((((Kps.nil a15).u p16).u p17).u p18).u p19
    replace s0 := kc15.k s0 rfl
    replace s1 := kc15.k s1 rfl
    replace s2 := kc15.k s2 rfl
    replace s6 := p19.v
    replace s7 := kc15.k s7 rfl
    replace s8 := kc15.k s8 rfl
    clear kc15
    refine hK9 _ _ ?_
    clear hK9
    refine wp_ret ?_
    try dsimp only [Exit.then, Exit.inBlock]
    refine ret1 p19.s Try.results42 (res_tmp s6) ?_
    have e : insL os k x = os ++ [x] := by unfold insL; rw [List.take_of_length_le (by omega), List.drop_eq_nil_of_le (by omega)]
    rw [e]
    exact ⟨_, _, rfl, PN⟩
  replace s22 : a15.eval (.tmp 22) = .bool false := (s22).trans (congrArg Value.bool (decide_eq_false hend))
  refine c_false s22 ?_
  refine wp_skip ?_
  refine hK7 _ _ ?_
  clear hK7
  refine wp_seq_k fun K10 hK10 => ?_
  refine wp_seq_k fun K11 hK11 => ?_
  have hkn : k < os.length := by omega
  obtain ⟨g, rfl⟩ := own_some o_z (by omega)
  obtain ⟨cur, hbg, hh, _, hcm, hcs, ht⟩ := own_block o_z
  have hgx : q ≠ g := fun e => hne (by rw [e]; rfl)
  have hG : w.grownBy w (some g) := World.grownBy.refl _ _
  refine wp_region_lit ?_
  refine q_v p15.s rfl rfl rfl (g_move rfl s8 ?_)
  intro a16 p16
  refine q_v p16.s rfl rfl rfl (g_move rfl (p16.k s7 rfl) ?_)
  intro a17 p17
  refine q_v p17.s rfl rfl rfl (g_add (r := ((os.length + 1 : Nat) : Int)) rfl (p17.k p16.v rfl) p17.v (by omega) (by omega) ?_)
  intro a18 p18
  refine q_v p18.s rfl rfl rfl (g_move rfl (p18.k (p17.k (p16.k s0 rfl) rfl) rfl) ?_)
  intro a19 p19
  refine q_v p19.s rfl rfl rfl (g_cap rfl Try.underlying26 p19.v ?_)
  intro a20 p20
  refine q_v p20.s rfl rfl rfl (g_gtr rfl (p20.k (p19.k p18.v rfl) rfl) p20.v ?_)
  intro a21 p21
  refine wpList_nil ?_
  have kc15 := ((((((Kps.nil a15).u p16).u p17).u p18).u p19).u p20).u p21
  replace s0 := kc15.k s0 rfl
  replace s1 := kc15.k s1 rfl
  replace s2 := kc15.k s2 rfl
  replace s6 := kc15.k s6 rfl
  replace s7 := kc15.k s7 rfl
  replace s8 := kc15.k s8 rfl
  replace s31 := p21.v
  clear kc15
  refine hK11 _ _ ?_
  clear hK11
  by_cases hroom : ((c : Nat) : Int) < ((os.length + 1 : Nat) : Int)
  · replace s31 : a21.eval (.tmp 31) = .bool true := (s31).trans (congrArg Value.bool (decide_eq_true hroom))
    refine c_true s31 ?_
    refine wp_seq_k fun K12 hK12 => ?_
    refine wp_region_lit ?_
    refine q_v p21.s rfl rfl rfl (g_move rfl s0 ?_)
    intro a22 p22
    refine q_v p22.s rfl rfl rfl (g_move rfl (p22.k s1 rfl) ?_)
    intro a23 p23
    refine q_v p23.s rfl rfl rfl ?_
    refine g_head (k := k) rfl (p23.k p22.v rfl) p23.v Try.underlying26 (fun w => Try.sizeOf45 w) (by omega) ?_
    intro a24 p24
    refine q_v p24.s rfl rfl rfl (g_move rfl (p24.k (p23.k (p22.k s8 rfl) rfl) rfl) ?_)
    intro a25 p25
    refine q_v p25.s rfl rfl rfl (g_move rfl (p25.k (p24.k (p23.k (p22.k s7 rfl) rfl) rfl) rfl) ?_)
    intro a26 p26
    refine q_v p26.s rfl rfl rfl (g_add (r := ((os.length + 1 : Nat) : Int)) rfl (p26.k p25.v rfl) p26.v (by omega) (by omega) ?_)
    intro a27 p27
    refine q_v p27.s rfl rfl rfl (g_move rfl (p27.k (p26.k (p25.k (p24.k (p23.k (p22.k s1 rfl) rfl) rfl) rfl) rfl) rfl) ?_)
    intro a28 p28
    refine q_v p28.s rfl rfl rfl (g_sub (r := ((os.length + 1 : Nat) : Int) - ((k : Nat) : Int)) rfl (p28.k p27.v rfl) p28.v (by omega) (by omega) ?_)
    intro a29 p29
    refine q_v p29.s rfl rfl rfl ?_
    have hold := own_cells cWaiting_len hh ht
    refine g_growZ (g := g) (c := c) (i := k) (k := os.length + 1 - k) (z := .agg #[.int .i64 0, .int .i64 0, .int .i64 0, .int .i64 0, .int .i64 0]) (size := 5) (bytes := 40) (P0 := (os.take k).flatMap cWaiting) (n := os.length + 1) rfl (p29.k (p28.k (p27.k (p26.k (p25.k p24.v rfl) rfl) rfl) rfl) rfl) p29.v (by omega) Try.underlying26 Try.underlying3 infoWaiting rfl (by decide) (by decide) (take_cells hold) (by rw [flatMap_length cWaiting 5 cWaiting_len, List.length_take, Nat.min_eq_left (by omega)]) (by omega) (by omega) (by omega) (by omega) ?_
    intro g2 G w9 Z hg2 hZl hg2e hBl hGn hGm
    have hgg : g2 ≠ g := by have := lt_of_block hh; omega
    have hgq : g2 ≠ q := by have := lt_of_block h_q; omega
    have hgw : w.heap.size ≤ g2 := Nat.le_of_eq hg2e.symm
    replace hh := keep_below hh hBl
    replace h_q := keep_below h_q hBl
    have hcz : ((os.take k).flatMap cWaiting ++ Z).length = G * 5 := by rw [List.length_append, hZl, flatMap_length cWaiting 5 cWaiting_len, List.length_take, Nat.min_eq_left (by omega)]; omega
    intro a30 p30
    refine q_v p30.s rfl rfl rfl (g_assign rfl p30.v ?_)
    intro a31 p31
    refine wpList_nil ?_
    have kc21 := ((((((((((Kps.nil a21).u p22).u p23).u p24).u p25).u p26).u p27).u p28).u p29).u p30).u p31
    replace s0 := kc21.k s0 rfl
    replace s1 := kc21.k s1 rfl
    replace s2 := kc21.k s2 rfl
    replace s6 := kc21.k s6 rfl
    replace s7 := kc21.k s7 rfl
    replace s8 := kc21.k s8 rfl
    replace s9 := p31.v
    clear kc21
    refine hK12 _ _ ?_
    clear hK12
    refine wp_seq_k fun K13 hK13 => ?_
    refine wp_region_lit ?_
    refine q_v p31.s rfl rfl rfl (g_move rfl s9 ?_)
    intro a32 p32
    refine q_v p32.s rfl rfl rfl (g_move rfl (p32.k s1 rfl) ?_)
    intro a33 p33
    refine q_v p33.s rfl rfl rfl ?_
    refine g_sliceFrom (i := k) (r := k * 5) rfl (p33.k p32.v rfl) p33.v Try.underlying26 (fun w => Try.sizeOf45 w) (by omega) (by omega) (by omega) (by omega) ?_
    intro a34 p34
    refine q_v p34.s rfl rfl rfl (g_move rfl (p34.k (p33.k (p32.k s2 rfl) rfl) rfl) ?_)
    intro a35 p35
    refine q_v p35.s rfl rfl rfl ?_
    refine g_copyZ (size := 5) (m := 1) (cs := (cWaiting x)) rfl (p35.k p34.v rfl) p35.v Try.underlying26 infoW5 hg2 (by simp only [Nat.min_def]; split <;> omega) rfl (box_cells (l := cWaiting x) h_q) (by have h9 := hcz; (try simp only [Array.length_toList] at h9); (try rw [List.size_toArray]); rw [show (cWaiting x).length = 5 from rfl]; omega) (cWaiting_one x) ?_
    intro w14 u14 hn14 hr14 hs14
    try simp only [List.toList_toArray] at hn14
    replace hh := keep_grown hh hr14 (fun e => hgg (Option.some.inj e))
    replace h_q := keep_grown h_q hr14 (fun e => hgq (Option.some.inj e))
    replace hg2 := hn14
    replace hBl := hBl.grown hr14 hBl.size (fun k e => by cases e; exact hgw)
    obtain ⟨hi1, hi2, hi3⟩ := ins_grow cWaiting cWaiting_len (os := os) (x := x) (Z := Z) rfl hkn hGn hZl rfl
    replace hcz : _ := hi1
    have hcz2 := hcz
    intro a36 p36
    refine wpList_nil ?_
    have kc31 := (((((Kps.nil a31).u p32).u p33).u p34).u p35).u p36
    replace s0 := kc31.k s0 rfl
    replace s1 := kc31.k s1 rfl
    replace s2 := kc31.k s2 rfl
    replace s6 := kc31.k s6 rfl
    replace s7 := kc31.k s7 rfl
    replace s8 := kc31.k s8 rfl
    replace s9 := kc31.k s9 rfl
    clear kc31
    refine hK13 _ _ ?_
    clear hK13
    refine wp_seq_k fun K15 hK15 => ?_
    have hs := p36.s
    refine wp_drawn (n := 95) [] [8] [] (fun k_ v_ _wx => match k_ with | 0 => v_ = .slice (some ⟨g2, 0, none⟩) (os.length + 1) G | 1 => v_ = .int .i64 ((k : Nat) : Int) | 2 => v_ = .int .i64 1 | 3 => v_ = .int .i64 ((k + 1 : Nat) : Int) | 4 => v_ = .slice (some ⟨g2, (k + 1) * 5, none⟩) ((os.length + 1) - (k + 1)) (G - (k + 1)) | 5 => v_ = .slice (some ⟨g, 0, none⟩) os.length c | 6 => v_ = .int .i64 ((k : Nat) : Int) | 7 => v_ = .slice (some ⟨g, k * 5, none⟩) (os.length - k) (c - k) | _ => True) (by kernel_rfl) (by kernel_rfl) (by kernel_rfl) (by kernel_rfl) hs.size ?_ ?_ ?_
    · intro i v wa wb hb hr
      rcases i with _ | _ | _ | _ | _ | _ | _ | _ | _ | i
      · exact hr
      · exact hr
      · exact hr
      · exact hr
      · exact hr
      · exact hr
      · exact hr
      · exact hr
      · trivial
      · trivial
    · refine d_step rfl rfl ?_ (d_step rfl rfl ?_ (d_step rfl rfl ?_ (d_step rfl rfl ?_ (d_step rfl rfl ?_ (d_step rfl rfl ?_ (d_step rfl rfl ?_ (d_step rfl rfl ?_ (d_chain rfl (d_nil)))))))))
      · intro xv_ wx ρ hρ hwx hd K hK
        have e9 : ρ (.tmp 9) = .slice (some ⟨g2, 0, none⟩) (os.length + 1) G := (hρ.inn 9 rfl).trans s9
        refine g_move rfl e9 ?_
        exact hK _ _ (Below.refl _ _) rfl
      · intro xv_ wx ρ hρ hwx hd K hK
        have e1 : ρ (.tmp 1) = .int .i64 ((k : Nat) : Int) := (hρ.inn 1 rfl).trans s1
        refine g_move rfl e1 ?_
        exact hK _ _ (Below.refl _ _) rfl
      · intro xv_ wx ρ hρ hwx hd K hK
        have e7 : ρ (.tmp 7) = .int .i64 1 := (hρ.inn 7 rfl).trans s7
        refine g_move rfl e7 ?_
        exact hK _ _ (Below.refl _ _) rfl
      · intro xv_ wx ρ hρ hwx hd K hK
        obtain r1 : xv_ 1 = .int .i64 ((k : Nat) : Int) := hd 1 rfl
        have e47 : ρ (.tmp 47) = .int .i64 ((k : Nat) : Int) := (hρ.out 1 47 rfl (by rw [hs.size]; decide) rfl).trans r1
        obtain r2 : xv_ 2 = .int .i64 1 := hd 2 rfl
        have e48 : ρ (.tmp 48) = .int .i64 1 := (hρ.out 2 48 rfl (by rw [hs.size]; decide) rfl).trans r2
        refine g_add (r := ((k + 1 : Nat) : Int)) rfl e47 e48 (by omega) (by omega) ?_
        exact hK _ _ (Below.refl _ _) rfl
      · intro xv_ wx ρ hρ hwx hd K hK
        obtain r0 : xv_ 0 = .slice (some ⟨g2, 0, none⟩) (os.length + 1) G := hd 0 rfl
        have e46 : ρ (.tmp 46) = .slice (some ⟨g2, 0, none⟩) (os.length + 1) G := (hρ.out 0 46 rfl (by rw [hs.size]; decide) rfl).trans r0
        obtain r3 : xv_ 3 = .int .i64 ((k + 1 : Nat) : Int) := hd 3 rfl
        have e49 : ρ (.tmp 49) = .int .i64 ((k + 1 : Nat) : Int) := (hρ.out 3 49 rfl (by rw [hs.size]; decide) rfl).trans r3
        refine g_sliceFrom (i := k + 1) (r := (k + 1) * 5) rfl e46 e49 Try.underlying26 (fun w => Try.sizeOf45 w) (by omega) (by omega) (by omega) (by omega) ?_
        exact hK _ _ (Below.refl _ _) rfl
      · intro xv_ wx ρ hρ hwx hd K hK
        have e0 : ρ (.tmp 0) = .slice (some ⟨g, 0, none⟩) os.length c := (hρ.inn 0 rfl).trans s0
        refine g_move rfl e0 ?_
        exact hK _ _ (Below.refl _ _) rfl
      · intro xv_ wx ρ hρ hwx hd K hK
        have e1 : ρ (.tmp 1) = .int .i64 ((k : Nat) : Int) := (hρ.inn 1 rfl).trans s1
        refine g_move rfl e1 ?_
        exact hK _ _ (Below.refl _ _) rfl
      · intro xv_ wx ρ hρ hwx hd K hK
        obtain r5 : xv_ 5 = .slice (some ⟨g, 0, none⟩) os.length c := hd 5 rfl
        have e51 : ρ (.tmp 51) = .slice (some ⟨g, 0, none⟩) os.length c := (hρ.out 5 51 rfl (by rw [hs.size]; decide) rfl).trans r5
        obtain r6 : xv_ 6 = .int .i64 ((k : Nat) : Int) := hd 6 rfl
        have e52 : ρ (.tmp 52) = .int .i64 ((k : Nat) : Int) := (hρ.out 6 52 rfl (by rw [hs.size]; decide) rfl).trans r6
        refine g_sliceFrom (i := k) (r := k * 5) rfl e51 e52 Try.underlying26 (fun w => Try.sizeOf45 w) (by omega) (by omega) (by omega) (by omega) ?_
        exact hK _ _ (Below.refl _ _) rfl
    · intro x0_ w16 hb_w16 hr0
      obtain r0 : x0_ 0 = .slice (some ⟨g2, 0, none⟩) (os.length + 1) G := hr0 0 (by decide) rfl rfl
      obtain r1 : x0_ 1 = .int .i64 ((k : Nat) : Int) := hr0 1 (by decide) rfl rfl
      obtain r2 : x0_ 2 = .int .i64 1 := hr0 2 (by decide) rfl rfl
      obtain r3 : x0_ 3 = .int .i64 ((k + 1 : Nat) : Int) := hr0 3 (by decide) rfl rfl
      obtain r4 : x0_ 4 = .slice (some ⟨g2, (k + 1) * 5, none⟩) ((os.length + 1) - (k + 1)) (G - (k + 1)) := hr0 4 (by decide) rfl rfl
      obtain r5 : x0_ 5 = .slice (some ⟨g, 0, none⟩) os.length c := hr0 5 (by decide) rfl rfl
      obtain r6 : x0_ 6 = .int .i64 ((k : Nat) : Int) := hr0 6 (by decide) rfl rfl
      obtain r7 : x0_ 7 = .slice (some ⟨g, k * 5, none⟩) (os.length - k) (c - k) := hr0 7 (by decide) rfl rfl
      clear hr0
      replace hh := keep_below hh hb_w16
      replace h_q := keep_below h_q hb_w16
      replace hg2 := keep_below hg2 hb_w16
      replace hBl := hBl.trans (hb_w16.mono hBl.size)
      clear hb_w16
      intro op_ ho_ xv_ ρ hρ qx_ ql_ qk_
      obtain rfl := Option.some.inj ho_
      clear ho_
      have e50 : ρ (.tmp 50) = .slice (some ⟨g2, (k + 1) * 5, none⟩) ((os.length + 1) - (k + 1)) (G - (k + 1)) := (hρ.out 4 50 rfl (by rw [hs.size]; decide) rfl).trans ((qx_ 4 (by decide) rfl rfl).trans r4)
      have e53 : ρ (.tmp 53) = .slice (some ⟨g, k * 5, none⟩) (os.length - k) (c - k) := (hρ.out 7 53 rfl (by rw [hs.size]; decide) rfl).trans ((qx_ 7 (by decide) rfl rfl).trans r7)
      have hold := own_cells cWaiting_len hh ht
      refine g_copyZ (size := 5) (m := os.length - k) (cs := ((os.drop k).flatMap cWaiting)) rfl e50 e53 Try.underlying26 infoW5 hg2 (by simp only [Nat.min_def]; split <;> omega) (by rw [flatMap_length cWaiting 5 cWaiting_len, List.length_drop]) (fun j v hj => by rw [Addr.add_lit]; exact drop_cells cWaiting_len (by omega) hold j v hj) (by have h9 := hcz; (try simp only [Array.length_toList] at h9); (try rw [List.size_toArray]); rw [flatMap_length cWaiting 5 cWaiting_len, List.length_drop]; omega) (flatWaiting_one _) ?_
      intro w17 u17 hn17 hr17 hs17
      try simp only [List.toList_toArray] at hn17
      replace hh := keep_grown hh hr17 (fun e => hgg (Option.some.inj e))
      replace h_q := keep_grown h_q hr17 (fun e => hgq (Option.some.inj e))
      replace hg2 := hn17
      replace hBl := hBl.grown hr17 hBl.size (fun k e => by cases e; exact hgw)
      have hcz2 := hcz
      clear e50 e53
      clear hρ qx_ ql_ qk_
      intro xv_ a37 hρ hsz hdf qx_ ql_ qk_ qlk_
      replace s0 : a37.eval (.tmp 0) = .slice (some ⟨g, 0, none⟩) os.length c := (hρ.inn 0 rfl).trans s0
      replace s1 : a37.eval (.tmp 1) = .int .i64 ((k : Nat) : Int) := (hρ.inn 1 rfl).trans s1
      replace s2 : a37.eval (.tmp 2) = .slice (some ⟨q, 0, none⟩) 1 1 := (hρ.inn 2 rfl).trans s2
      replace s6 : a37.eval (.tmp 6) = .slice none 0 0 := (hρ.inn 6 rfl).trans s6
      replace s7 : a37.eval (.tmp 7) = .int .i64 1 := (hρ.inn 7 rfl).trans s7
      replace s8 : a37.eval (.tmp 8) = .int .i64 ((os.length : Nat) : Int) := (hρ.inn 8 rfl).trans s8
      replace s9 : a37.eval (.tmp 9) = .slice (some ⟨g2, 0, none⟩) (os.length + 1) G := (hρ.inn 9 rfl).trans s9
      replace hs : St 95 a37 := ⟨hsz.trans hs.size, hdf.trans hs.nodef⟩
      clear hρ hsz hdf qx_ ql_ qk_ qlk_
      refine hK15 _ _ ?_
      clear hK15
      refine wp_seq_k fun K18 hK18 => ?_
      refine wp_region_lit ?_
      refine q_v hs rfl rfl rfl (g_move rfl s9 ?_)
      intro a38 p38
      refine q_v p38.s rfl rfl rfl (g_assign rfl p38.v ?_)
      intro a39 p39
      refine wpList_nil ?_
      replace s0 := p39.k (p38.k s0 rfl) rfl
      replace s1 := p39.k (p38.k s1 rfl) rfl
      replace s2 := p39.k (p38.k s2 rfl) rfl
      replace s6 := p39.v
      replace s7 := p39.k (p38.k s7 rfl) rfl
      replace s8 := p39.k (p38.k s8 rfl) rfl
      refine hK18 _ _ ?_
      clear hK18
      refine wp_ret ?_
      try dsimp only [Exit.then, Exit.inBlock]
      refine ret1 p39.s Try.results42 (res_tmp s6) ?_
      exact ⟨_, _, rfl, own_of_block (Nat.le_trans hbase hgw) hg2 hGn hGm (by simpa using hi2) (by simpa using hi3), grown_from_below hBl, fun b e => by cases e; exact .inr hg2e⟩
  replace s31 : a21.eval (.tmp 31) = .bool false := (s31).trans (congrArg Value.bool (decide_eq_false hroom))
  refine c_false s31 ?_
  refine wp_skip ?_
  refine hK10 _ _ ?_
  clear hK10
  refine wp_seq_k fun K19 hK19 => ?_
  have hc1 : os.length + 1 ≤ c := by omega
  have hcz : cur.toList.length = c * 5 := by simpa using hcs
  refine wp_region_lit ?_
  refine q_v p21.s rfl rfl rfl (g_move rfl s0 ?_)
  intro a22 p22
  refine q_v p22.s rfl rfl rfl (g_move rfl (p22.k s8 rfl) ?_)
  intro a23 p23
  refine q_v p23.s rfl rfl rfl (g_move rfl (p23.k (p22.k s7 rfl) rfl) ?_)
  intro a24 p24
  refine q_v p24.s rfl rfl rfl (g_add (r := ((os.length + 1 : Nat) : Int)) rfl (p24.k p23.v rfl) p24.v (by omega) (by omega) ?_)
  intro a25 p25
  refine q_v p25.s rfl rfl rfl ?_
  refine g_head (k := os.length + 1) rfl (p25.k (p24.k (p23.k p22.v rfl) rfl) rfl) p25.v Try.underlying26 (fun w => Try.sizeOf45 w) (by omega) ?_
  intro a26 p26
  refine q_v p26.s rfl rfl rfl (g_assign rfl p26.v ?_)
  intro a27 p27
  refine wpList_nil ?_
  have kc21 := ((((((Kps.nil a21).u p22).u p23).u p24).u p25).u p26).u p27
  replace s0 := p27.v
  replace s1 := kc21.k s1 rfl
  replace s2 := kc21.k s2 rfl
  replace s6 := kc21.k s6 rfl
  replace s7 := kc21.k s7 rfl
  replace s8 := kc21.k s8 rfl
  clear kc21
  refine hK19 _ _ ?_
  clear hK19
  refine wp_seq_k fun K20 hK20 => ?_
  refine wp_seq_k fun K21 hK21 => ?_
  have hov : ∀ a b d, (callFunc 88 #[.slice (some ⟨q, 0, none⟩) 1 1, .slice (some ⟨g, a, none⟩) b d]).run Try.prog w = .ok (.value (.bool false)) w := fun a b d => by
    obtain ⟨c1, c2, c3⟩ := copy_word (l := cWaiting x) h_q
    rw [run_callFunc_extern Try.func88 (by kernel_rfl) (by kernel_rfl) (by kernel_rfl) (e := Extern.SlicesOverlaps.overlaps #[26, 26] #[4]) (by kernel_rfl), Lib.run_overlaps_apart w 26 4 45 Try.underlying26 5 Try.sizeOf45 ⟨q, 0, none⟩ ⟨g, a, none⟩ 1 1 b d hgx _ _ _ _ c1 (cur_cells hh) (by omega) c2 c3]
    rfl
  refine wp_region_lit ?_
  refine q_v p27.s rfl rfl rfl (g_move rfl s2 ?_)
  intro a28 p28
  refine q_v p28.s rfl rfl rfl (g_move rfl (p28.k s0 rfl) ?_)
  intro a29 p29
  refine q_v p29.s rfl rfl rfl (g_move rfl (p29.k (p28.k s1 rfl) rfl) ?_)
  intro a30 p30
  refine q_v p30.s rfl rfl rfl (g_move rfl (p30.k (p29.k (p28.k s7 rfl) rfl) rfl) ?_)
  intro a31 p31
  refine q_v p31.s rfl rfl rfl (g_add (r := ((k + 1 : Nat) : Int)) rfl (p31.k p30.v rfl) p31.v (by omega) (by omega) ?_)
  intro a32 p32
  refine q_v p32.s rfl rfl rfl ?_
  refine g_sliceFrom (i := k + 1) (r := (k + 1) * 5) rfl (p32.k (p31.k (p30.k p29.v rfl) rfl) rfl) p32.v Try.underlying26 (fun w => Try.sizeOf45 w) (by omega) (by omega) (by omega) (by omega) ?_
  intro a33 p33
  refine q_v p33.s rfl rfl rfl ?_
  refine g_extern rfl rfl (arr2 (p33.k (p32.k (p31.k (p30.k (p29.k p28.v rfl) rfl) rfl) rfl) rfl) p33.v) (hov _ _ _) ?_
  intro a34 p34
  refine q_v p34.s rfl rfl rfl (g_not rfl p34.v ?_)
  intro a35 p35
  refine wpList_nil ?_
  have kc27 := ((((((((Kps.nil a27).u p28).u p29).u p30).u p31).u p32).u p33).u p34).u p35
  replace s0 := kc27.k s0 rfl
  replace s1 := kc27.k s1 rfl
  replace s2 := kc27.k s2 rfl
  replace s6 := kc27.k s6 rfl
  replace s7 := kc27.k s7 rfl
  replace s8 := kc27.k s8 rfl
  replace s68 := p35.v
  clear kc27
  refine hK21 _ _ ?_
  clear hK21
  refine c_true s68 ?_
  refine wp_seq_k fun K22 hK22 => ?_
  have hs := p35.s
  refine wp_drawn (n := 95) [] [8] [] (fun k_ v_ _wx => match k_ with | 0 => v_ = .slice (some ⟨g, 0, none⟩) (os.length + 1) c | 1 => v_ = .int .i64 ((k : Nat) : Int) | 2 => v_ = .int .i64 1 | 3 => v_ = .int .i64 ((k + 1 : Nat) : Int) | 4 => v_ = .slice (some ⟨g, (k + 1) * 5, none⟩) ((os.length + 1) - (k + 1)) (c - (k + 1)) | 5 => v_ = .slice (some ⟨g, 0, none⟩) (os.length + 1) c | 6 => v_ = .int .i64 ((k : Nat) : Int) | 7 => v_ = .slice (some ⟨g, k * 5, none⟩) ((os.length + 1) - k) (c - k) | _ => True) (by kernel_rfl) (by kernel_rfl) (by kernel_rfl) (by kernel_rfl) hs.size ?_ ?_ ?_
  · intro i v wa wb hb hr
    rcases i with _ | _ | _ | _ | _ | _ | _ | _ | _ | i
    · exact hr
    · exact hr
    · exact hr
    · exact hr
    · exact hr
    · exact hr
    · exact hr
    · exact hr
    · trivial
    · trivial
  · refine d_step rfl rfl ?_ (d_step rfl rfl ?_ (d_step rfl rfl ?_ (d_step rfl rfl ?_ (d_step rfl rfl ?_ (d_step rfl rfl ?_ (d_step rfl rfl ?_ (d_step rfl rfl ?_ (d_chain rfl (d_nil)))))))))
    · intro xv_ wx ρ hρ hwx hd K hK
      have e0 : ρ (.tmp 0) = .slice (some ⟨g, 0, none⟩) (os.length + 1) c := (hρ.inn 0 rfl).trans s0
      refine g_move rfl e0 ?_
      exact hK _ _ (Below.refl _ _) rfl
    · intro xv_ wx ρ hρ hwx hd K hK
      have e1 : ρ (.tmp 1) = .int .i64 ((k : Nat) : Int) := (hρ.inn 1 rfl).trans s1
      refine g_move rfl e1 ?_
      exact hK _ _ (Below.refl _ _) rfl
    · intro xv_ wx ρ hρ hwx hd K hK
      have e7 : ρ (.tmp 7) = .int .i64 1 := (hρ.inn 7 rfl).trans s7
      refine g_move rfl e7 ?_
      exact hK _ _ (Below.refl _ _) rfl
    · intro xv_ wx ρ hρ hwx hd K hK
      obtain r1 : xv_ 1 = .int .i64 ((k : Nat) : Int) := hd 1 rfl
      have e70 : ρ (.tmp 70) = .int .i64 ((k : Nat) : Int) := (hρ.out 1 70 rfl (by rw [hs.size]; decide) rfl).trans r1
      obtain r2 : xv_ 2 = .int .i64 1 := hd 2 rfl
      have e71 : ρ (.tmp 71) = .int .i64 1 := (hρ.out 2 71 rfl (by rw [hs.size]; decide) rfl).trans r2
      refine g_add (r := ((k + 1 : Nat) : Int)) rfl e70 e71 (by omega) (by omega) ?_
      exact hK _ _ (Below.refl _ _) rfl
    · intro xv_ wx ρ hρ hwx hd K hK
      obtain r0 : xv_ 0 = .slice (some ⟨g, 0, none⟩) (os.length + 1) c := hd 0 rfl
      have e69 : ρ (.tmp 69) = .slice (some ⟨g, 0, none⟩) (os.length + 1) c := (hρ.out 0 69 rfl (by rw [hs.size]; decide) rfl).trans r0
      obtain r3 : xv_ 3 = .int .i64 ((k + 1 : Nat) : Int) := hd 3 rfl
      have e72 : ρ (.tmp 72) = .int .i64 ((k + 1 : Nat) : Int) := (hρ.out 3 72 rfl (by rw [hs.size]; decide) rfl).trans r3
      refine g_sliceFrom (i := k + 1) (r := (k + 1) * 5) rfl e69 e72 Try.underlying26 (fun w => Try.sizeOf45 w) (by omega) (by omega) (by omega) (by omega) ?_
      exact hK _ _ (Below.refl _ _) rfl
    · intro xv_ wx ρ hρ hwx hd K hK
      have e0 : ρ (.tmp 0) = .slice (some ⟨g, 0, none⟩) (os.length + 1) c := (hρ.inn 0 rfl).trans s0
      refine g_move rfl e0 ?_
      exact hK _ _ (Below.refl _ _) rfl
    · intro xv_ wx ρ hρ hwx hd K hK
      have e1 : ρ (.tmp 1) = .int .i64 ((k : Nat) : Int) := (hρ.inn 1 rfl).trans s1
      refine g_move rfl e1 ?_
      exact hK _ _ (Below.refl _ _) rfl
    · intro xv_ wx ρ hρ hwx hd K hK
      obtain r5 : xv_ 5 = .slice (some ⟨g, 0, none⟩) (os.length + 1) c := hd 5 rfl
      have e74 : ρ (.tmp 74) = .slice (some ⟨g, 0, none⟩) (os.length + 1) c := (hρ.out 5 74 rfl (by rw [hs.size]; decide) rfl).trans r5
      obtain r6 : xv_ 6 = .int .i64 ((k : Nat) : Int) := hd 6 rfl
      have e75 : ρ (.tmp 75) = .int .i64 ((k : Nat) : Int) := (hρ.out 6 75 rfl (by rw [hs.size]; decide) rfl).trans r6
      refine g_sliceFrom (i := k) (r := k * 5) rfl e74 e75 Try.underlying26 (fun w => Try.sizeOf45 w) (by omega) (by omega) (by omega) (by omega) ?_
      exact hK _ _ (Below.refl _ _) rfl
  · intro x0_ w23 hb_w23 hr0
    obtain r0 : x0_ 0 = .slice (some ⟨g, 0, none⟩) (os.length + 1) c := hr0 0 (by decide) rfl rfl
    obtain r1 : x0_ 1 = .int .i64 ((k : Nat) : Int) := hr0 1 (by decide) rfl rfl
    obtain r2 : x0_ 2 = .int .i64 1 := hr0 2 (by decide) rfl rfl
    obtain r3 : x0_ 3 = .int .i64 ((k + 1 : Nat) : Int) := hr0 3 (by decide) rfl rfl
    obtain r4 : x0_ 4 = .slice (some ⟨g, (k + 1) * 5, none⟩) ((os.length + 1) - (k + 1)) (c - (k + 1)) := hr0 4 (by decide) rfl rfl
    obtain r5 : x0_ 5 = .slice (some ⟨g, 0, none⟩) (os.length + 1) c := hr0 5 (by decide) rfl rfl
    obtain r6 : x0_ 6 = .int .i64 ((k : Nat) : Int) := hr0 6 (by decide) rfl rfl
    obtain r7 : x0_ 7 = .slice (some ⟨g, k * 5, none⟩) ((os.length + 1) - k) (c - k) := hr0 7 (by decide) rfl rfl
    clear hr0
    replace hh := keep_below hh hb_w23
    replace h_q := keep_below h_q hb_w23
    replace hG := grown_trans' hG (grown_from_below hb_w23)
    clear hb_w23
    intro op_ ho_ xv_ ρ hρ qx_ ql_ qk_
    obtain rfl := Option.some.inj ho_
    clear ho_
    have e73 : ρ (.tmp 73) = .slice (some ⟨g, (k + 1) * 5, none⟩) ((os.length + 1) - (k + 1)) (c - (k + 1)) := (hρ.out 4 73 rfl (by rw [hs.size]; decide) rfl).trans ((qx_ 4 (by decide) rfl rfl).trans r4)
    have e76 : ρ (.tmp 76) = .slice (some ⟨g, k * 5, none⟩) ((os.length + 1) - k) (c - k) := (hρ.out 7 76 rfl (by rw [hs.size]; decide) rfl).trans ((qx_ 7 (by decide) rfl rfl).trans r7)
    have hold := own_cells cWaiting_len hh ht
    refine g_copyZ (size := 5) (m := os.length - k) (cs := ((os.drop k).flatMap cWaiting)) rfl e73 e76 Try.underlying26 infoW5 hh (by simp only [Nat.min_def]; split <;> omega) (by rw [flatMap_length cWaiting 5 cWaiting_len, List.length_drop]) (fun j v hj => by rw [Addr.add_lit]; exact drop_cells cWaiting_len (by omega) hold j v hj) (by have h9 := hcz; (try simp only [Array.length_toList] at h9); (try rw [List.size_toArray]); rw [flatMap_length cWaiting 5 cWaiting_len, List.length_drop]; omega) (flatWaiting_one _) ?_
    intro w24 u24 hn24 hr24 hs24
    try simp only [List.toList_toArray] at hn24
    replace h_q := keep_grown h_q hr24 (fun e => hgx (Option.some.inj e).symm)
    replace hh := hn24
    replace hG := grown_trans' hG hr24
    obtain ⟨hi1, hi2, hi3⟩ := ins_room cWaiting cWaiting_len (os := os) (x := x) (cur := cur.toList) rfl hkn hc1 (by simpa using hcs) ht rfl
    replace hcz : _ := hi1
    have hcz2 := hcz
    clear e73 e76
    clear hρ qx_ ql_ qk_
    intro xv_ a36 hρ hsz hdf qx_ ql_ qk_ qlk_
    replace s0 : a36.eval (.tmp 0) = .slice (some ⟨g, 0, none⟩) (os.length + 1) c := (hρ.inn 0 rfl).trans s0
    replace s1 : a36.eval (.tmp 1) = .int .i64 ((k : Nat) : Int) := (hρ.inn 1 rfl).trans s1
    replace s2 : a36.eval (.tmp 2) = .slice (some ⟨q, 0, none⟩) 1 1 := (hρ.inn 2 rfl).trans s2
    replace s6 : a36.eval (.tmp 6) = .slice none 0 0 := (hρ.inn 6 rfl).trans s6
    replace s7 : a36.eval (.tmp 7) = .int .i64 1 := (hρ.inn 7 rfl).trans s7
    replace s8 : a36.eval (.tmp 8) = .int .i64 ((os.length : Nat) : Int) := (hρ.inn 8 rfl).trans s8
    replace hs : St 95 a36 := ⟨hsz.trans hs.size, hdf.trans hs.nodef⟩
    clear hρ hsz hdf qx_ ql_ qk_ qlk_
    refine hK22 _ _ ?_
    clear hK22
    refine wp_seq_k fun K25 hK25 => ?_
    refine wp_region_lit ?_
    refine q_v hs rfl rfl rfl (g_move rfl s0 ?_)
    intro a37 p37
    refine q_v p37.s rfl rfl rfl (g_move rfl (p37.k s1 rfl) ?_)
    intro a38 p38
    refine q_v p38.s rfl rfl rfl ?_
    refine g_sliceFrom (i := k) (r := k * 5) rfl (p38.k p37.v rfl) p38.v Try.underlying26 (fun w => Try.sizeOf45 w) (by omega) (by omega) (by omega) (by omega) ?_
    intro a39 p39
    refine q_v p39.s rfl rfl rfl (g_move rfl (p39.k (p38.k (p37.k s2 rfl) rfl) rfl) ?_)
    intro a40 p40
    refine q_v p40.s rfl rfl rfl ?_
    refine g_copyZ (size := 5) (m := 1) (cs := (cWaiting x)) rfl (p40.k p39.v rfl) p40.v Try.underlying26 infoW5 hh (by simp only [Nat.min_def]; split <;> omega) rfl (box_cells (l := cWaiting x) h_q) (by have h9 := hcz; (try simp only [Array.length_toList] at h9); (try rw [List.size_toArray]); rw [show (cWaiting x).length = 5 from rfl]; omega) (cWaiting_one x) ?_
    intro w26 u26 hn26 hr26 hs26
    try simp only [List.toList_toArray] at hn26
    replace hh := hn26
    replace hG := grown_trans' hG hr26
    have hcz2 := hcz
    intro a41 p41
    refine wpList_nil ?_
    have kc36 := (((((Kps.nil a36).u p37).u p38).u p39).u p40).u p41
    replace s0 := kc36.k s0 rfl
    replace s1 := kc36.k s1 rfl
    replace s2 := kc36.k s2 rfl
    replace s6 := kc36.k s6 rfl
    replace s7 := kc36.k s7 rfl
    replace s8 := kc36.k s8 rfl
    clear kc36
    refine hK25 _ _ ?_
    clear hK25
    refine wp_seq_k fun K27 hK27 => ?_
    refine wp_region_lit ?_
    refine q_v p41.s rfl rfl rfl (g_move rfl s0 ?_)
    intro a42 p42
    refine q_v p42.s rfl rfl rfl (g_assign rfl p42.v ?_)
    intro a43 p43
    refine wpList_nil ?_
    replace s0 := p43.k (p42.k s0 rfl) rfl
    replace s1 := p43.k (p42.k s1 rfl) rfl
    replace s2 := p43.k (p42.k s2 rfl) rfl
    replace s6 := p43.v
    replace s7 := p43.k (p42.k s7 rfl) rfl
    replace s8 := p43.k (p42.k s8 rfl) rfl
    refine hK27 _ _ ?_
    clear hK27
    refine wp_ret ?_
    try dsimp only [Exit.then, Exit.inBlock]
    refine ret1 p43.s Try.results42 (res_tmp s6) ?_
    exact ⟨_, _, rfl, own_of_block hbg hh hc1 hcm (by simpa using hi2) (by simpa using hi3), hG, fun b e => .inl e⟩
end Go.Proofs.Ytoccapmoehdohaa
