/- Commands and notices can be read from their bytes, and commands with one byte changed cannot. No condition. -/
import Derived.Test.YtpnejmlbfadaaaaCmdLaw
namespace Go.Proofs.Ytpnejmlbfadaaaa
open Go.RowKit

theorem fnCommandBytes_walk {w : World} (A : Option Addr) (n c : Nat) (zs : List UInt8) (hlen : zs.length = n) (hnc : n ≤ c) (hcm : c ≤ maxLen) (hrd : Rd w 1 A n (zs.flatMap cB)) :
    Calls Try.prog 13 #[.slice A n c] w fun e w' => e = .returned (.bool true) ∧ Below w.heap.size w w' := by
  have hB0 : Below w.heap.size w w := Below.refl _ _
  have hcm2 := hcm
  unfold maxLen at hcm2
  have hat0 := fun W (h : Below w.heap.size w W) => at_any A n c zs hlen hnc hcm (hrd.below h) 0 (by omega) (by omega)
  have hat1 := fun W (h : Below w.heap.size w W) => at_any A n c zs hlen hnc hcm (hrd.below h) 1 (by omega) (by omega)
  have hat2 := fun W (h : Below w.heap.size w W) => at_any A n c zs hlen hnc hcm (hrd.below h) 2 (by omega) (by omega)
  have hat3 := fun W (h : Below w.heap.size w W) => at_any A n c zs hlen hnc hcm (hrd.below h) 3 (by omega) (by omega)
  have hat4 := fun W (h : Below w.heap.size w W) => at_any A n c zs hlen hnc hcm (hrd.below h) 4 (by omega) (by omega)
  have hat5 := fun W (h : Below w.heap.size w W) => at_any A n c zs hlen hnc hcm (hrd.below h) 5 (by omega) (by omega)
  have hl0 := atV_lo zs 0
  have hh0 := atV_hi zs 0
  generalize atV zs 0 = E0 at hat0 hl0 hh0
  have hl1 := atV_lo zs 1
  have hh1 := atV_hi zs 1
  generalize atV zs 1 = E1 at hat1 hl1 hh1
  have hl2 := atV_lo zs 2
  have hh2 := atV_hi zs 2
  generalize atV zs 2 = E2 at hat2 hl2 hh2
  have hl3 := atV_lo zs 3
  have hh3 := atV_hi zs 3
  generalize atV zs 3 = E3 at hat3 hl3 hh3
  have hl4 := atV_lo zs 4
  have hh4 := atV_hi zs 4
  generalize atV zs 4 = E4 at hat4 hl4 hh4
  have hl5 := atV_lo zs 5
  have hh5 := atV_hi zs 5
  generalize atV zs 5 = E5 at hat5 hl5 hh5
  have hm0 : E0.tmod 2 = E0 % 2 := Int.tmod_eq_emod_of_nonneg hl0
  have hk0 : 0 ≤ E0 % 2 ∧ E0 % 2 ≤ 1 := by omega
  by_cases hbig : 1048576 < (n : Int)
  · go_enter Try.func13, Try.ntmps13
    go_wp2_with (go_at_call 26; refine (big_any _ _ _ _ (by omega)).mono ?_; rintro e w' ⟨rfl, rfl⟩)
    go_ret
    exact ⟨rfl, Below.refl _ _⟩
  go_enter Try.func13, Try.ntmps13
  go_wp2_with fail
  refine (big_any _ _ _ _ (by omega)).mono ?_
  rintro e w' ⟨rfl, rfl⟩
  go_wp2_with fail
  refine (drawBytes_any A n c zs _ hlen (by omega) hrd).mono ?_
  rintro e w1 ⟨l, rfl, hll, hb1⟩
  have hs1 : Below w.heap.size w w1 := hb1
  have hB1 := below_step hB0 hs1
  have hz1 := hb1.size
  have hc : cmdOk (E0 % 2) E1 l = true := cmdOk_mk (by omega) hl1 hh1 (by omega)
  have hpos := encCmd_pos hc
  have htx := encCmd_txt hc
  have hE := fun W => encodeCommand_any (E0 % 2) E1 l W (txt_le (by omega))
  have hD := fun W => decodeMade (E0 % 2) E1 l W hc
  have hT := fun j y W => decodeTurned (E0 % 2) E1 l j y W hc
  have hU := fun W => turn_any (encCmd (E0 % 2) E1 l) E2 E3 W hpos htx hl2 hh2 hl3 hh3
  clear hpos htx
  generalize encCmd (E0 % 2) E1 l = t at hE hD hT hU
  go_wp2_with fail
  refine (hat0 _ hB1).mono ?_
  rintro e w' ⟨rfl, rfl⟩
  go_wp2_with fail
  refine (hat1 _ hB1).mono ?_
  rintro e w' ⟨rfl, rfl⟩
  go_wp2_with fail
  refine (hE _).mono ?_
  rintro e w2 ⟨rfl, hb2⟩
  have hs2 : Below w1.heap.size w1 w2 := hb2
  have hB2 := below_step hB1 hs2
  have hz2 := hb2.size
  go_wp2_with fail
  refine (hD _).mono ?_
  rintro e w3 ⟨rfl, hb3⟩
  have hs3 : Below w2.heap.size w2 w3 := hb3
  have hB3 := below_step hB2 hs3
  have hz3 := hb3.size
  go_wp2_with fail
  refine (hat2 _ hB3).mono ?_
  rintro e w' ⟨rfl, rfl⟩
  go_wp2_with fail
  refine (hat3 _ hB3).mono ?_
  rintro e w' ⟨rfl, rfl⟩
  go_wp2_with fail
  refine (hU _).mono ?_
  rintro e w4 ⟨j, y, hj, hyn, rfl, hb4⟩
  have hs4 : Below w3.heap.size w3 w4 := hb4
  have hB4 := below_step hB3 hs4
  have hz4 := hb4.size
  go_wp2_with fail
  refine (hT _ _ _ hj hyn).mono ?_
  rintro e w5 ⟨rfl, hb5⟩
  have hs5 : Below w4.heap.size w4 w5 := hb5
  have hB5 := below_step hB4 hs5
  have hz5 := hb5.size
  have hm4 : E4.tmod 2 = E4 % 2 := Int.tmod_eq_emod_of_nonneg hl4
  have hm5 : E5.tmod 2 = E5 % 2 := Int.tmod_eq_emod_of_nonneg hl5
  go_wp2_with fail
  refine (hat4 _ hB5).mono ?_
  rintro e w' ⟨rfl, rfl⟩
  go_wp2_with fail
  refine (hat5 _ hB5).mono ?_
  rintro e w' ⟨rfl, rfl⟩
  go_wp2_with fail
  generalize (E4 % 2 == 0) = f4
  generalize (E5 % 2 == 0) = f5
  refine (encodeNotice_any E1 f4 f5 _).mono ?_
  rintro e w6 ⟨rfl, hb6⟩
  have hs6 : Below w5.heap.size w5 w6 := ((Below.refl _ _).alloc (Nat.le_refl _) _).trans (hb6.mono (by simp))
  have hB6 := below_step hB5 hs6
  have hz6 := hb6.size
  simp only [World.size_alloc] at hz6
  have l0_6 : w5.heap.size < w6.heap.size := by omega
  have b0c0_6 : w6.cell? ⟨w5.heap.size, 0, none⟩ = some (.int .i64 E1) := (hb6.cell (p := ⟨w5.heap.size, 0, none⟩) (by simp)).trans (by simp [go_sem])
  have b0c1_6 : w6.cell? ⟨w5.heap.size, 1, none⟩ = some (.bool f4) := (hb6.cell (p := ⟨w5.heap.size, 1, none⟩) (by simp)).trans (by simp [go_sem])
  have b0c2_6 : w6.cell? ⟨w5.heap.size, 2, none⟩ = some (.bool f5) := (hb6.cell (p := ⟨w5.heap.size, 2, none⟩) (by simp)).trans (by simp [go_sem])
  go_wp2_with fail
  refine (noticeMade E1 f4 f5 _ hl1 hh1).mono ?_
  rintro e w7 ⟨rfl, hb7⟩
  have hs7 : Below w6.heap.size w6 w7 := hb7
  have hB7 := below_step hB6 hs7
  have hz7 := hb7.size
  have l0_7 : w5.heap.size < w7.heap.size := by omega
  have b0c0_7 : w7.cell? ⟨w5.heap.size, 0, none⟩ = some (.int .i64 E1) := (hb7.cell (p := ⟨w5.heap.size, 0, none⟩) l0_6).trans b0c0_6
  have b0c1_7 : w7.cell? ⟨w5.heap.size, 1, none⟩ = some (.bool f4) := (hb7.cell (p := ⟨w5.heap.size, 1, none⟩) l0_6).trans b0c1_6
  have b0c2_7 : w7.cell? ⟨w5.heap.size, 2, none⟩ = some (.bool f5) := (hb7.cell (p := ⟨w5.heap.size, 2, none⟩) l0_6).trans b0c2_6
  clear b0c0_6 b0c1_6 b0c2_6
  go_wp2
  go_ret
  exact ⟨rfl, hB7.alloc hB7.size _⟩

/-! ### The row's step, written by a program of ours (frame.py) -/
namespace fnCommandBytesDone
open Go.ChangeShapes Go.WideShapes Go.ChangeAt
open Go.ChangeMaps (open_string)
theorem own : ownKnob Try.prog.godebug = none := by kernel_rfl
theorem laidOut : laidOutB Try.prog = true := by kernel_rfl
set_option maxRecDepth 100000 in
theorem lifted (os : Os) (started : os.Started) (H : Type) (enc : TypeId × Value → H) :
    ReturnsInHanded {} Try.checked os 13 .any (Rows.fnCommandBytesSpec.pre6 enc Try.prog Try.f13 Rows.fnCommandBytesRow.domain false) (Rows.fnCommandBytesSpec.post enc Try.prog Try.f13 false true false false) := by
  refine returnsInHanded_of_change (C := Try.checked) own started (by kernel_rfl) Try.func13
    (ChangeSpec.witness6 (enc := enc) (C := Try.checked) false ⟨#[], #[.slice none 0 0], []⟩ 8 (by kernel_rfl) (by kernel_rfl) (by kernel_rfl) (by kernel_rfl)) ?_
  intro W base args ds gs before hval0 hW hcnd _
  have hval : ∀ (j : Nat) t v, Try.f13.params[j]? = some t → args[j]? = some v → Value.okWide Try.prog W .any base t v := hval0
  have hW' := hW
  obtain ⟨p, q, hA0, hV, rfl, hfz, hnd⟩ := hW
  have hA : DataW.TrodAll enc Try.prog W 0 (fun _ => true) true Try.f13.params.toList args.toList ds p := hA0
  rw [Try.params13] at hA hval
  obtain ⟨v0, vs0, d0, ds0, p0, q0, hargs, rfl, rfl, h0, r0⟩ := trodAll_cons hA
  obtain ⟨rfl, rfl, rfl⟩ := trodAll_nil r0
  obtain rfl : args = #[v0] := by cases args; simp_all
  obtain ⟨rfl, rfl⟩ := trodVars_none hV
  have k0 := h0
  have lt0 : ∀ x ∈ p0, x.block < W.heap.size := by obtain ⟨m, hm⟩ := k0; exact DataW.trod_lt m _ _ _ hm
  obtain ⟨A0, n0, c0, rs0, hv0, hlen0, hnc0, hcm0, hrd0, _⟩ := open_slice_of cB (fun _ => True) 1 cB_len Try.underlying35 (by kernel_rfl) (by decide) (fun _ _ _ hh => el_byte Try.underlying5 hh) h0.choose_spec
  obtain ⟨_, _, _, rfl⟩ := okWide_slice Try.underlying35 (hval 0 35 v0 rfl rfl)
  simp only [Value.cells, List.cons.injEq, Value.slice.injEq, and_true] at hv0
  obtain ⟨rfl, rfl, rfl⟩ := hv0
  clear hA0 hval0
  refine (fnCommandBytes_walk (w := W) _ _ _ rs0 hlen0 hnc0 hcm0 hrd0).mono fun e W' ⟨he, bel⟩ => ?_
  subst he
  exact ⟨_, rfl, _, _, _, [], _, [], hW', trodAll_mk1 (shut_bool Try.underlying4 _), (trodAll_cons_mk (Below.trod laidOut (by kernel_rfl) (of_decide_eq_true (by kernel_rfl)) k0 bel lt0) trodAll_mk0), rfl, bel.frame _, fun h => by cases h⟩
theorem proved : Rows.FnCommandBytesSaid :=
  OpenClaim.holds_of_wide 13 Try.f13 rfl rfl rfl rfl rfl rfl rfl ⟨rfl, rfl, rfl, rfl, rfl⟩ rfl rfl rfl rfl rfl (by kernel_rfl) Try.func13 (by kernel_rfl)
    (of_decide_eq_true (by kernel_rfl)) (by unfold Func.isWrapper; first | (rw [if_pos (by decide +kernel)]; kernel_rfl) | (rw [if_neg (by decide +kernel)]; exact ⟨rfl, rfl⟩))
    (fun os started H enc _ => lifted os started H enc)
end fnCommandBytesDone
end Go.Proofs.Ytpnejmlbfadaaaa
