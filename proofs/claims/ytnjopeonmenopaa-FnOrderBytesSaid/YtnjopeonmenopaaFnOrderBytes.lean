/- Orders and records can be read from their bytes. No condition. -/
import Derived.Test.YtnjopeonmenopaaOrdLaw
namespace Go.Proofs.Ytnjopeonmenopaa
open Go.RowKit

set_option maxRecDepth 100000 in
set_option maxHeartbeats 8000000 in
theorem fnOrderBytes_walk {w : World} (A : Option Addr) (n c : Nat) (zs : List UInt8) (hlen : zs.length = n) (hnc : n ≤ c) (hcm : c ≤ maxLen) (hrd : Rd w 1 A n (zs.flatMap cB)) :
    Calls Try.prog 10 #[.slice A n c] w fun e w' => e = .returned (.bool true) ∧ Below w.heap.size w w' := by
  have hcm2 := hcm
  unfold maxLen at hcm2
  have hat0 := fun W (h : Below w.heap.size w W) => at_any A n c zs hlen hnc hcm (hrd.below h) 0 (by omega) (by omega)
  have hat1 := fun W (h : Below w.heap.size w W) => at_any A n c zs hlen hnc hcm (hrd.below h) 1 (by omega) (by omega)
  have hat2 := fun W (h : Below w.heap.size w W) => at_any A n c zs hlen hnc hcm (hrd.below h) 2 (by omega) (by omega)
  have hl0 := atV_lo zs 0
  have hh0 := atV_hi zs 0
  have hl1 := atV_lo zs 1
  have hh1 := atV_hi zs 1
  have hl2 := atV_lo zs 2
  have hh2 := atV_hi zs 2
  generalize atV zs 0 = E0 at hat0 hl0 hh0
  generalize atV zs 1 = E1 at hat1 hl1 hh1
  generalize atV zs 2 = E2 at hat2 hl2 hh2
  by_cases hbig : 1048576 < (n : Int)
  · go_enter Try.func10, Try.ntmps10
    go_wp2_with (go_at_call 32; refine (big_any _ _ _ _ (by omega)).mono ?_; rintro e w' ⟨rfl, rfl⟩)
    go_ret
    exact ⟨rfl, Below.refl _ _⟩
  go_enter Try.func10, Try.ntmps10
  go_wp2_with fail
  refine (big_any _ _ _ _ (by omega)).mono ?_
  rintro e w' ⟨rfl, rfl⟩
  go_wp2_with fail
  refine (drawOrders_any A n c zs _ hlen (by omega) hrd).mono ?_
  rintro e w1 ⟨os, B, d, rfl, hown, hD, hol, hb1⟩
  have hrow := fun W (h : Below w1.heap.size w1 W) => (Rd.of_own hown).below h
  have HD := Lib.hid hD
  have hz1 := hb1.size
  clear hown hD
  go_wp2
  go_loopw [4] (fun i wr => ∃ k : Nat, k ≤ os.length ∧ i = .int .i64 k ∧ Below w1.heap.size w1 wr) (fun i _ => os.length - (intOf i).toNat)
  case atStart => exact ⟨0, Nat.zero_le _, rfl, Below.refl _ _⟩
  case round =>
    obtain ⟨k, hk, rfl, hB⟩ := hrel
    have hzr := hB.size
    by_cases hlt : k < os.length
    · have k0 : (0 : Int) ≤ k := by omega
      have k1 : (k : Int) < os.length := by omega
      obtain ⟨b, o, rfl, hb, hcl⟩ := Rd.get cOrder_len (hrow _ hB) rfl hlt
      have q0 : wr.cell? ⟨b, o + k * 4, none⟩ = some (.int .i64 os[k].f0) := hcl 0 _ (by omega) rfl
      have q1 : wr.cell? ⟨b, o + k * 4 + 1, none⟩ = some (.int .i64 os[k].f1) := hcl 1 _ (by omega) rfl
      have q2 : wr.cell? ⟨b, o + k * 4 + 2, none⟩ = some (.int .i64 os[k].f2) := hcl 2 _ (by omega) rfl
      have q3 : wr.cell? ⟨b, o + k * 4 + 3, none⟩ = some (.int .i64 os[k].f3) := hcl 3 _ (by omega) rfl
      have hok := (HD.out os[k] (List.getElem_mem hlt)).1
      clear hcl
      generalize os[k].f0 = v0 at *
      generalize os[k].f1 = v1 at *
      generalize os[k].f2 = v2 at *
      generalize os[k].f3 = v3 at *
      have hE := fun W => encodeOrder_any v0 v1 v2 v3 W
      have hM := fun W => orderMade v0 v1 v2 v3 W hok
      have hO := fun W => orderOk_any v0 v1 v2 v3 W
      rw [hok] at hO
      generalize encOrd v0 v1 v2 v3 = t at hE hM
      clear hok
      go_wp2_with fail
      refine (hE _).mono ?_
      rintro e w2 ⟨rfl, hb2⟩
      go_wp2_with fail
      refine (hM _).mono ?_
      rintro e w3 ⟨rfl, hb3⟩
      have hb23 := below_step hb2 hb3
      have hz3 := hb23.size
      obtain ⟨hc3, hf3⟩ := bcell hb23
      have hlb : b < w3.heap.size := by omega
      go_wp2_with fail
      have p0 : (w3.alloc (.cells #[.int .i64 v0, .int .i64 v1, .int .i64 v2, .int .i64 v3] 32)).cell? ⟨b, o + k * 4, none⟩ = some (.int .i64 v0) := al_cell hlb ((hc3 _ _ hb).trans q0)
      have p1 : (w3.alloc (.cells #[.int .i64 v0, .int .i64 v1, .int .i64 v2, .int .i64 v3] 32)).cell? ⟨b, o + k * 4 + 1, none⟩ = some (.int .i64 v1) := al_cell hlb ((hc3 _ _ hb).trans q1)
      have p2 : (w3.alloc (.cells #[.int .i64 v0, .int .i64 v1, .int .i64 v2, .int .i64 v3] 32)).cell? ⟨b, o + k * 4 + 2, none⟩ = some (.int .i64 v2) := al_cell hlb ((hc3 _ _ hb).trans q2)
      have p3 : (w3.alloc (.cells #[.int .i64 v0, .int .i64 v1, .int .i64 v2, .int .i64 v3] 32)).cell? ⟨b, o + k * 4 + 3, none⟩ = some (.int .i64 v3) := al_cell hlb ((hc3 _ _ hb).trans q3)
      have r0 : (w3.alloc (.cells #[.int .i64 v0, .int .i64 v1, .int .i64 v2, .int .i64 v3] 32)).cell? ⟨w3.heap.size, 0, none⟩ = some (.int .i64 v0) := by simp [go_sem]
      have r1 : (w3.alloc (.cells #[.int .i64 v0, .int .i64 v1, .int .i64 v2, .int .i64 v3] 32)).cell? ⟨w3.heap.size, 1, none⟩ = some (.int .i64 v1) := by simp [go_sem]
      have r2 : (w3.alloc (.cells #[.int .i64 v0, .int .i64 v1, .int .i64 v2, .int .i64 v3] 32)).cell? ⟨w3.heap.size, 2, none⟩ = some (.int .i64 v2) := by simp [go_sem]
      have r3 : (w3.alloc (.cells #[.int .i64 v0, .int .i64 v1, .int .i64 v2, .int .i64 v3] 32)).cell? ⟨w3.heap.size, 3, none⟩ = some (.int .i64 v3) := by simp [go_sem]
      have hB4 : Below w1.heap.size w1 (w3.alloc (.cells #[.int .i64 v0, .int .i64 v1, .int .i64 v2, .int .i64 v3] 32)) := (below_step hB hb23).alloc (by omega) _
      have hs4 : w3.heap.size < (w3.alloc (.cells #[.int .i64 v0, .int .i64 v1, .int .i64 v2, .int .i64 v3] 32)).heap.size := by simp
      generalize w3.alloc (.cells #[.int .i64 v0, .int .i64 v1, .int .i64 v2, .int .i64 v3] 32) = w4 at p0 p1 p2 p3 r0 r1 r2 r3 hB4 hs4 ⊢
      have hlb4 : b < w4.heap.size := by omega
      clear hc3 hf3 q0 q1 q2 q3 hB hb2 hb3 hb23
      refine wp_region_bw (by kernel_rfl) (by kernel_rfl) ?_
      obtain ⟨uc, uf⟩ := bwcell (W := w4)
      repeat (go_big_quiet_step ((go_at_call 21; exact bw_call (hO _))))
      refine wpQuiet_nil ?_
      rintro _ ⟨⟨w7, hb7⟩, rfl⟩
      clear uc uf
      obtain ⟨hc_w7, hf_w7⟩ := bcell hb7
      go_wp2
      go_roundw
      case rel => exact ⟨k + 1, by omega, by go_num, below_step hB4 hb7⟩
      case measure => simp [intOf]; omega
    · have hBw : Below w.heap.size w wr := hb1.trans (hB.mono hz1)
      have hk1 : ¬ (k : Int) < os.length := by omega
      have m1 : E1.tmod 4 = E1 % 4 := Int.tmod_eq_emod_of_nonneg hl1
      go_wp2_with fail
      refine (hat0 _ hBw).mono ?_
      rintro e w' ⟨rfl, rfl⟩
      go_wp2_with fail
      refine (hat1 _ hBw).mono ?_
      rintro e w' ⟨rfl, rfl⟩
      go_wp2_with fail
      refine (hat2 _ hBw).mono ?_
      rintro e w' ⟨rfl, rfl⟩
      go_wp2_with fail
      refine (drawBytes_any A n c zs _ hlen (by omega) (hrd.below hBw)).mono ?_
      rintro e w2 ⟨l, rfl, hll, hb2⟩
      have hB2 := below_step hBw hb2
      have hz2 := hb2.size
      have hok : recOk (E0 * 256) (E1 % 4) (E2 * 3000) l = true := by
        unfold recOk
        rw [inB_mk (by omega) (by omega), inB_mk (by omega) (by omega), inB_mk (by omega) (by omega), decide_eq_true (by omega)]
        rfl
      have hE := fun W => encodeRecord_any (E0 * 256) (E1 % 4) (E2 * 3000) l W (by unfold Txt; omega)
      have hM := fun W => recordMade (E0 * 256) (E1 % 4) (E2 * 3000) l W hok
      have hO := fun W => recordOk_any (E0 * 256) (E1 % 4) (E2 * 3000) l W (by unfold Txt; omega)
      have hL := encRec_len hok
      rw [hok] at hO
      generalize encRec (E0 * 256) (E1 % 4) (E2 * 3000) l = t at hE hM hL
      clear hok
      go_wp2_with fail
      generalize E0 * 256 = v0 at *
      generalize E1 % 4 = v1 at *
      generalize E2 * 3000 = v2 at *
      refine (hE _).mono ?_
      rintro e w3 ⟨rfl, hb3⟩
      obtain ⟨hc3, hf3⟩ := bcell hb3
      have hz3 := hb3.size
      simp only [World.size_alloc] at hz3
      have hB3 := hB2.trans ((((Below.refl _ _).alloc (Nat.le_refl _) _).trans (hb3.mono (by simp))).mono hB2.size)
      have s0 : w3.cell? ⟨w2.heap.size, 0, none⟩ = some (.int .i64 v0) := by simp [hc3, go_sem]
      have s1 : w3.cell? ⟨w2.heap.size, 1, none⟩ = some (.int .i64 v1) := by simp [hc3, go_sem]
      have s2 : w3.cell? ⟨w2.heap.size, 2, none⟩ = some (.int .i64 v2) := by simp [hc3, go_sem]
      have s3 : w3.cell? ⟨w2.heap.size, 3, none⟩ = some (.string ⟨l.toArray⟩) := by simp [hc3, go_sem]
      clear hc3 hf3
      go_wp2_with fail
      refine (hM _).mono ?_
      rintro e w4 ⟨rfl, hb4⟩
      obtain ⟨hc4, hf4⟩ := bcell hb4
      have hz4 := hb4.size
      have hl3 : w2.heap.size < w3.heap.size := by omega
      have hB4 := below_step hB3 hb4
      have u0 := (hc4 _ _ hl3).trans s0
      have u1 := (hc4 _ _ hl3).trans s1
      have u2 := (hc4 _ _ hl3).trans s2
      have u3 := (hc4 _ _ hl3).trans s3
      have hl4 : w2.heap.size < w4.heap.size := by omega
      clear hc4 hf4 s0 s1 s2 s3
      go_wp2_with fail
      have a0 := al_cell (o := .cells #[.int .i64 v0, .int .i64 v1, .int .i64 v2, .string ⟨l.toArray⟩] 26) hl4 u0
      have a1 := al_cell (o := .cells #[.int .i64 v0, .int .i64 v1, .int .i64 v2, .string ⟨l.toArray⟩] 26) hl4 u1
      have a2 := al_cell (o := .cells #[.int .i64 v0, .int .i64 v1, .int .i64 v2, .string ⟨l.toArray⟩] 26) hl4 u2
      have a3 := al_cell (o := .cells #[.int .i64 v0, .int .i64 v1, .int .i64 v2, .string ⟨l.toArray⟩] 26) hl4 u3
      have r0 : (w4.alloc (.cells #[.int .i64 v0, .int .i64 v1, .int .i64 v2, .string ⟨l.toArray⟩] 26)).cell? ⟨w4.heap.size, 0, none⟩ = some (.int .i64 v0) := by simp [go_sem]
      have r1 : (w4.alloc (.cells #[.int .i64 v0, .int .i64 v1, .int .i64 v2, .string ⟨l.toArray⟩] 26)).cell? ⟨w4.heap.size, 1, none⟩ = some (.int .i64 v1) := by simp [go_sem]
      have r2 : (w4.alloc (.cells #[.int .i64 v0, .int .i64 v1, .int .i64 v2, .string ⟨l.toArray⟩] 26)).cell? ⟨w4.heap.size, 2, none⟩ = some (.int .i64 v2) := by simp [go_sem]
      have r3 : (w4.alloc (.cells #[.int .i64 v0, .int .i64 v1, .int .i64 v2, .string ⟨l.toArray⟩] 26)).cell? ⟨w4.heap.size, 3, none⟩ = some (.string ⟨l.toArray⟩) := by simp [go_sem]
      have hB5 : Below w.heap.size w (w4.alloc (.cells #[.int .i64 v0, .int .i64 v1, .int .i64 v2, .string ⟨l.toArray⟩] 26)) := hB4.alloc hB4.size _
      have hs5 : w4.heap.size < (w4.alloc (.cells #[.int .i64 v0, .int .i64 v1, .int .i64 v2, .string ⟨l.toArray⟩] 26)).heap.size := by simp
      generalize w4.alloc (.cells #[.int .i64 v0, .int .i64 v1, .int .i64 v2, .string ⟨l.toArray⟩] 26) = w5 at a0 a1 a2 a3 r0 r1 r2 r3 hB5 hs5 ⊢
      have hl5 : w2.heap.size < w5.heap.size := by omega
      have hsum : IntKind.i64.wrap (6 + (l.length : Int)) = 6 + (l.length : Int) := IntWalk.i64_in _ (by omega)
      have hLt : (t.length : Int) = 6 + (l.length : Int) := by omega
      clear u0 u1 u2 u3 hL
      refine wp_region_bw (by kernel_rfl) (by kernel_rfl) ?_
      obtain ⟨uc, uf⟩ := bwcell (W := w5)
      repeat (go_big_quiet_step ((first | (go_at_call 18; exact bw_call (hO _)) | (go_at_call 23; exact bw_call (hE _)))))
      refine wpQuiet_nil ?_
      rintro _ ⟨⟨w7, hb7⟩, rfl⟩
      clear uc uf
      obtain ⟨hc_w7, hf_w7⟩ := bcell hb7
      go_wp2
      go_ret
      exact ⟨rfl, below_step hB5 hb7⟩

/-! ### The row's step, written by a program of ours (frame.py) -/
namespace fnOrderBytesDone
open Go.ChangeShapes Go.WideShapes Go.ChangeAt
open Go.ChangeMaps (open_string)
theorem own : ownKnob Try.prog.godebug = none := by kernel_rfl
theorem laidOut : laidOutB Try.prog = true := by kernel_rfl
set_option maxRecDepth 100000 in
theorem lifted (os : Os) (started : os.Started) (H : Type) (enc : TypeId × Value → H) :
    ReturnsInHanded {} Try.checked os 10 .any (Rows.fnOrderBytesSpec.pre6 enc Try.prog Try.f10 Rows.fnOrderBytesRow.domain false) (Rows.fnOrderBytesSpec.post enc Try.prog Try.f10 false true false false) := by
  refine returnsInHanded_of_change (C := Try.checked) own started (by kernel_rfl) Try.func10
    (ChangeSpec.witness6 (enc := enc) (C := Try.checked) false ⟨#[], #[.slice none 0 0], []⟩ 8 (by kernel_rfl) (by kernel_rfl) (by kernel_rfl) (by kernel_rfl)) ?_
  intro W base args ds gs before hval0 hW hcnd _
  have hval : ∀ (j : Nat) t v, Try.f10.params[j]? = some t → args[j]? = some v → Value.okWide Try.prog W .any base t v := hval0
  have hW' := hW
  obtain ⟨p, q, hA0, hV, rfl, hfz, hnd⟩ := hW
  have hA : DataW.TrodAll enc Try.prog W 0 (fun _ => true) true Try.f10.params.toList args.toList ds p := hA0
  rw [Try.params10] at hA hval
  obtain ⟨v0, vs0, d0, ds0, p0, q0, hargs, rfl, rfl, h0, r0⟩ := trodAll_cons hA
  obtain ⟨rfl, rfl, rfl⟩ := trodAll_nil r0
  obtain rfl : args = #[v0] := by cases args; simp_all
  obtain ⟨rfl, rfl⟩ := trodVars_none hV
  have k0 := h0
  have lt0 : ∀ x ∈ p0, x.block < W.heap.size := by obtain ⟨m, hm⟩ := k0; exact DataW.trod_lt m _ _ _ hm
  obtain ⟨A0, n0, c0, rs0, hv0, hlen0, hnc0, hcm0, hrd0, _⟩ := open_slice_of cB (fun _ => True) 1 cB_len Try.underlying44 (by kernel_rfl) (by decide) (fun _ _ _ hh => el_byte Try.underlying5 hh) h0.choose_spec
  obtain ⟨_, _, _, rfl⟩ := okWide_slice Try.underlying44 (hval 0 44 v0 rfl rfl)
  simp only [Value.cells, List.cons.injEq, Value.slice.injEq, and_true] at hv0
  obtain ⟨rfl, rfl, rfl⟩ := hv0
  clear hA0 hval0
  refine (fnOrderBytes_walk (w := W) _ _ _ rs0 hlen0 hnc0 hcm0 hrd0).mono fun e W' ⟨he, bel⟩ => ?_
  subst he
  exact ⟨_, rfl, _, _, _, [], _, [], hW', trodAll_mk1 (shut_bool Try.underlying4 _), (trodAll_cons_mk (Below.trod laidOut (by kernel_rfl) (of_decide_eq_true (by kernel_rfl)) k0 bel lt0) trodAll_mk0), rfl, bel.frame _, fun h => by cases h⟩
theorem proved : Rows.FnOrderBytesSaid :=
  OpenClaim.holds_of_wide 10 Try.f10 rfl rfl rfl rfl rfl rfl rfl ⟨rfl, rfl, rfl, rfl, rfl⟩ rfl rfl rfl rfl rfl (by kernel_rfl) Try.func10 (by kernel_rfl)
    (of_decide_eq_true (by kernel_rfl)) (by unfold Func.isWrapper; first | (rw [if_pos (by decide +kernel)]; kernel_rfl) | (rw [if_neg (by decide +kernel)]; exact ⟨rfl, rfl⟩))
    (fun os started H enc _ => lifted os started H enc)
end fnOrderBytesDone
end Go.Proofs.Ytnjopeonmenopaa
