/- The segments of a file make the file, and parts and lists can be read from their bytes. No condition. -/
import Derived.Test.YtimlddibaffjoaaSegLaw
namespace Go.Proofs.Ytimlddibaffjoaa
open Go.RowKit

set_option maxRecDepth 100000 in
set_option maxHeartbeats 8000000 in
theorem fnSegments_walk {w : World} (A : Option Addr) (n c : Nat) (zs : List UInt8) (hlen : zs.length = n) (hnc : n ≤ c) (hcm : c ≤ maxLen) (hrd : Rd w 1 A n (zs.flatMap cB)) :
    Calls Try.prog 16 #[.slice A n c] w fun e w' => e = .returned (.bool true) ∧ Below w.heap.size w w' := by
  have hcm2 := hcm
  unfold maxLen at hcm2
  have hat0 := fun W (h : Below w.heap.size w W) => at_any A n c zs hlen hnc hcm (hrd.below h) 0 (by omega) (by omega)
  have hat1 := fun W (h : Below w.heap.size w W) => at_any A n c zs hlen hnc hcm (hrd.below h) 1 (by omega) (by omega)
  have hl0 := atV_lo zs 0
  have hh0 := atV_hi zs 0
  have hl1 := atV_lo zs 1
  have hh1 := atV_hi zs 1
  generalize atV zs 0 = E0 at hat0 hl0 hh0
  generalize atV zs 1 = E1 at hat1 hl1 hh1
  by_cases hbig : 1048576 < (n : Int)
  · go_enter Try.func16, Try.ntmps16
    go_wp2_with (go_at_call 58; refine (big_any _ _ _ _ (by omega)).mono ?_; rintro e w' ⟨rfl, rfl⟩)
    go_ret
    exact ⟨rfl, Below.refl _ _⟩
  go_enter Try.func16, Try.ntmps16
  go_wp2_with fail
  refine (big_any _ _ _ _ (by omega)).mono ?_
  rintro e w' ⟨rfl, rfl⟩
  go_wp2_with fail
  refine (drawFile_any A n c zs _ hlen (by omega) hrd).mono ?_
  rintro e w1 ⟨l, rfl, hll, hb1⟩
  have hz1 := hb1.size
  have hl600 : l.length ≤ 600 := by omega
  have htx : Txt l := by unfold Txt; omega
  go_wp2_with fail
  refine (countSegments_any _ _).mono ?_
  rintro e w' ⟨rfl, rfl⟩
  have hS0 := cseg_lo (l.length : Int)
  have hS1 := cseg_hi (l.length : Int)
  obtain ⟨S, hSe⟩ : ∃ S, S = cseg (l.length : Int) := ⟨_, rfl⟩
  have HSe := Lib.hid hSe
  rw [← hSe] at hS0 hS1 ⊢
  clear hSe
  go_wp2
  go_loopw [5, 6] (fun t i wr => ∃ (k : Nat) (T : List UInt8), (k : Int) ≤ S ∧ i = .int .i64 k ∧ t = .string ⟨T.toArray⟩ ∧ Hid (T = l.take (24 * k)) ∧ T.length ≤ 24 * k ∧ Below w1.heap.size w1 wr) (fun _ i _ => (S - intOf i).toNat)
  case atStart => exact ⟨0, [], by omega, rfl, rfl, rfl, by simp, Below.refl _ _⟩
  case round =>
    obtain ⟨k, T, hk, rfl, rfl, hT, hTl, hB⟩ := hrel
    by_cases hlt : (k : Int) < S
    · obtain ⟨hs1, hs2, hs3⟩ := segOf_len hl600 (show (k : Int) < cseg l.length by rw [← HSe.out]; exact hlt)
      have HS3 := Lib.hid hs3
      have hSeg := fun W => segmentOf_any l k W htx
      generalize segOf l (k : Int) = x at *
      have hEn := fun W => encodeSegment_any 3 k x W (by unfold Txt; omega)
      have hDe := fun W => segMade 3 k x W (by omega) (by omega) ⟨hs1, hs2⟩
      generalize encSeg 3 (k : Int) x = y at hEn hDe
      clear hs3
      go_wp2_with fail
      refine (hSeg _).mono ?_
      rintro e w' ⟨rfl, rfl⟩
      go_wp2_with fail
      refine (hEn _).mono ?_
      rintro e w2 ⟨rfl, hb2⟩
      go_wp2_with fail
      refine (hDe _).mono ?_
      rintro e w3 ⟨rfl, hb3⟩
      have hB3 := below_step (below_step hB hb2) hb3
      go_wp2
      go_roundw
      case rel => exact ⟨k + 1, T ++ x, by omega, by go_num, str_app rfl, Lib.hid (by rw [hT.out]; exact HS3.out), by simp; omega, hB3⟩
      case measure => simp [intOf]; omega
    · have hTe : T = l := by rw [hT.out]; exact cseg_all hl600 (by rw [← HSe.out]; exact hlt)
      subst hTe
      have hBw : Below w.heap.size w wr := hb1.trans (hB.mono hz1)
      have m0 : E0.tmod 25 = E0 % 25 := Int.tmod_eq_emod_of_nonneg hl0
      have m1 : E1.tmod 25 = E1 % 25 := Int.tmod_eq_emod_of_nonneg hl1
      have r0 : 0 ≤ E0 % 25 ∧ E0 % 25 ≤ 24 := by omega
      have r1 : 0 ≤ E1 % 25 ∧ E1 % 25 ≤ 24 := by omega
      have hEn := fun W => encodeEnd_any 5 T W htx
      have hDe := fun W => endMade 5 T W (by omega) hl600
      have hCk := fun W => checkOf_any T W htx
      generalize encEnd 5 T = y at hEn hDe
      generalize crcOf T = C at hDe hCk
      go_wp2_with fail
      refine (hEn _).mono ?_
      rintro e w2 ⟨rfl, hb2⟩
      go_wp2_with fail
      refine (hDe _).mono ?_
      rintro e w3 ⟨rfl, hb3⟩
      have hB3 := below_step (below_step hBw hb2) hb3
      go_wp2_with fail
      refine (hat0 _ hB3).mono ?_
      rintro e w' ⟨rfl, rfl⟩
      go_wp2_with fail
      refine (hat1 _ hB3).mono ?_
      rintro e w' ⟨rfl, rfl⟩
      go_wp2_with fail
      generalize E0 % 25 = e0 at *
      generalize E1 % 25 = e1 at *
      have hrow := rd_litI w3 _ rfl [e0, e1] 3 (0, 0) 2 rfl
      have hB4 := hB3.alloc hB3.size (.cells #[.int .i64 e0, .int .i64 e1] 3)
      have hz4 : (w3.alloc (.cells #[.int .i64 e0, .int .i64 e1] 3)).heap.size = w3.heap.size + 1 := by simp
      have hrow2 : Rd (w3.alloc (.cells #[.int .i64 e0, .int .i64 e1] 3)) 1 (some ⟨w3.heap.size, 0, none⟩) 2 ([e0, e1].flatMap cI) := hrow
      clear hrow
      generalize w3.alloc (.cells #[.int .i64 e0, .int .i64 e1] 3) = w4 at hB4 hz4 hrow2 ⊢
      refine (encodeMissing_any 6 _ 2 _ [e0, e1] _ rfl (by omega) hrow2).mono ?_
      rintro e w5 ⟨rfl, hb5⟩
      go_wp2_with fail
      refine (missMade 6 e0 e1 _ (by omega) r0 r1).mono ?_
      rintro e w6 ⟨B, d, rfl, hown, hb6⟩
      have hB6 := below_step (below_step hB4 hb5) hb6
      go_wp2_with fail
      refine (hCk _).mono ?_
      rintro e w' ⟨rfl, rfl⟩
      go_wp2_with fail
      refine (sameInts_same _ _ 2 2 _ _ [e0, e1] _ rfl rfl (by omega) (Rd.of_own hown) ((hrow2.below hb5).below hb6)).mono ?_
      rintro e w7 ⟨rfl, hb7⟩
      go_wp2
      go_ret
      exact ⟨rfl, below_step hB6 hb7⟩

/-! ### The row's step, written by a program of ours (frame.py) -/
namespace fnSegmentsDone
open Go.ChangeShapes Go.WideShapes Go.ChangeAt
open Go.ChangeMaps (open_string)
theorem own : ownKnob Try.prog.godebug = none := by kernel_rfl
theorem laidOut : laidOutB Try.prog = true := by kernel_rfl
set_option maxRecDepth 100000 in
theorem lifted (os : Os) (started : os.Started) (H : Type) (enc : TypeId × Value → H) :
    ReturnsInHanded {} Try.checked os 16 .any (Rows.fnSegmentsSpec.pre6 enc Try.prog Try.f16 Rows.fnSegmentsRow.domain false) (Rows.fnSegmentsSpec.post enc Try.prog Try.f16 false true false false) := by
  refine returnsInHanded_of_change (C := Try.checked) own started (by kernel_rfl) Try.func16
    (ChangeSpec.witness6 (enc := enc) (C := Try.checked) false ⟨#[], #[.slice none 0 0], []⟩ 8 (by kernel_rfl) (by kernel_rfl) (by kernel_rfl) (by kernel_rfl)) ?_
  intro W base args ds gs before hval0 hW hcnd _
  have hval : ∀ (j : Nat) t v, Try.f16.params[j]? = some t → args[j]? = some v → Value.okWide Try.prog W .any base t v := hval0
  have hW' := hW
  obtain ⟨p, q, hA0, hV, rfl, hfz, hnd⟩ := hW
  have hA : DataW.TrodAll enc Try.prog W 0 (fun _ => true) true Try.f16.params.toList args.toList ds p := hA0
  rw [Try.params16] at hA hval
  obtain ⟨v0, vs0, d0, ds0, p0, q0, hargs, rfl, rfl, h0, r0⟩ := trodAll_cons hA
  obtain ⟨rfl, rfl, rfl⟩ := trodAll_nil r0
  obtain rfl : args = #[v0] := by cases args; simp_all
  obtain ⟨rfl, rfl⟩ := trodVars_none hV
  have k0 := h0
  have lt0 : ∀ x ∈ p0, x.block < W.heap.size := by obtain ⟨m, hm⟩ := k0; exact DataW.trod_lt m _ _ _ hm
  obtain ⟨A0, n0, c0, rs0, hv0, hlen0, hnc0, hcm0, hrd0, _⟩ := open_slice_of cB (fun _ => True) 1 cB_len Try.underlying67 (by kernel_rfl) (by decide) (fun _ _ _ hh => el_byte Try.underlying5 hh) h0.choose_spec
  obtain ⟨_, _, _, rfl⟩ := okWide_slice Try.underlying67 (hval 0 67 v0 rfl rfl)
  simp only [Value.cells, List.cons.injEq, Value.slice.injEq, and_true] at hv0
  obtain ⟨rfl, rfl, rfl⟩ := hv0
  clear hA0 hval0
  refine (fnSegments_walk (w := W) _ _ _ rs0 hlen0 hnc0 hcm0 hrd0).mono fun e W' ⟨he, bel⟩ => ?_
  subst he
  exact ⟨_, rfl, _, _, _, [], _, [], hW', trodAll_mk1 (shut_bool Try.underlying4 _), (trodAll_cons_mk (Below.trod laidOut (by kernel_rfl) (of_decide_eq_true (by kernel_rfl)) k0 bel lt0) trodAll_mk0), rfl, bel.frame _, fun h => by cases h⟩
theorem proved : Rows.FnSegmentsSaid :=
  OpenClaim.holds_of_wide 16 Try.f16 rfl rfl rfl rfl rfl rfl rfl ⟨rfl, rfl, rfl, rfl, rfl⟩ rfl rfl rfl rfl rfl (by kernel_rfl) Try.func16 (by kernel_rfl)
    (of_decide_eq_true (by kernel_rfl)) (by unfold Func.isWrapper; first | (rw [if_pos (by decide +kernel)]; kernel_rfl) | (rw [if_neg (by decide +kernel)]; exact ⟨rfl, rfl⟩))
    (fun os started H enc _ => lifted os started H enc)
end fnSegmentsDone
end Go.Proofs.Ytimlddibaffjoaa
