/- A number that is far from the expected one locks the receiver, which then takes nothing until it is unlocked. No condition. -/
import Derived.Test.YtpnejmlbfadaaaaLock
import Derived.Test.YtpnejmlbfadaaaaRelBox
namespace Go.Proofs.Ytpnejmlbfadaaaa
open Go.RowKit

theorem alloc_Receiver {o : Oper} (ho : o.op = .alloc 25) (ρ : Operand → Value) (w : World) (K : Value → World → Prop) (h : K (.pointer (some ⟨w.heap.size, 0, none⟩)) (w.alloc (.cells #[.int .i64 0, .bool false, .bool false, .int .i64 0] 25))) : goesR Try.prog o ρ w K := by
  obtain ⟨d, op, ty, p, af, g⟩ := o
  obtain rfl : op = _ := ho
  go_simp
  exact h

set_option maxRecDepth 100000 in
set_option maxHeartbeats 8000000 in
theorem fnLockedOut_walk {w : World} (A : Option Addr) (n c : Nat) (zs : List UInt8) (hlen : zs.length = n) (hnc : n ≤ c) (hcm : c ≤ maxLen) (hrd : Rd w 1 A n (zs.flatMap cB)) :
    Calls Try.prog 9 #[.slice A n c] w fun e w' => e = .returned (.bool true) ∧ Below w.heap.size w w' := by
  have hB0 : Below w.heap.size w w := Below.refl _ _
  have hcm2 := hcm
  unfold maxLen at hcm2
  have hat0 := fun W (h : Below w.heap.size w W) => at_any A n c zs hlen hnc hcm (hrd.below h) 0 (by omega) (by omega)
  have hat1 := fun W (h : Below w.heap.size w W) => at_any A n c zs hlen hnc hcm (hrd.below h) 1 (by omega) (by omega)
  have hat2 := fun W (h : Below w.heap.size w W) => at_any A n c zs hlen hnc hcm (hrd.below h) 2 (by omega) (by omega)
  have hl0 := atV_lo zs 0
  have hh0 := atV_hi zs 0
  generalize atV zs 0 = E0 at hat0 hl0 hh0
  have hl1 := atV_lo zs 1
  have hh1 := atV_hi zs 1
  generalize atV zs 1 = E1 at hat1 hl1 hh1
  have hl2 := atV_lo zs 2
  have hh2 := atV_hi zs 2
  generalize atV zs 2 = E2 at hat2 hl2 hh2
  have hc1 : cmdOk 0 ((E0 + (41 + E1 % 175)) % 256) [102, 97, 114] = true := cmdOk_mk (Or.inl rfl) (by omega) (by omega) (by decide)
  have hc2 : cmdOk 0 E0 [110, 101, 120, 116] = true := cmdOk_mk (Or.inl rfl) (by omega) (by omega) (by decide)
  have hc3 : cmdOk 1 0 [] = true := cmdOk_mk (Or.inr rfl) (by omega) (by omega) (by decide)
  have hc4 : cmdOk 0 ((E0 + 1 + E2 % 40) % 256) [120] = true := cmdOk_mk (Or.inl rfl) (by omega) (by omega) (by decide)
  have hE1 := fun W => encodeCommand_any 0 ((E0 + (41 + E1 % 175)) % 256) [102, 97, 114] W (txt_le (by decide))
  have hE2 := fun W => encodeCommand_any 0 (E0) [110, 101, 120, 116] W (txt_le (by decide))
  have hE3 := fun W => encodeCommand_any 1 (0) [] W (txt_le (by decide))
  have hE4 := fun W => encodeCommand_any 0 ((E0 + 1 + E2 % 40) % 256) [120] W (txt_le (by decide))
  have hT1 := fun W => takeEnc E0 false false 0 0 ((E0 + (41 + E1 % 175)) % 256) [102, 97, 114] (.tuple #[.agg #[.int .i64 E0, .bool true, .bool false, .int .i64 0], .string ⟨([] : List UInt8).toArray⟩, .bool false]) W hc1 ((tk_far hl0 hh0 (by omega) (by omega) _).trans rfl)
  have hT2 := fun W => takeEnc E0 true false 0 0 (E0) [110, 101, 120, 116] (.tuple #[.agg #[.int .i64 E0, .bool true, .bool false, .int .i64 0], .string ⟨([] : List UInt8).toArray⟩, .bool false]) W hc2 ((tk_locked hl0 hh0 _).trans rfl)
  have hT3 := fun W => takeEnc E0 true false 0 1 (0) [] (.tuple #[.agg #[.int .i64 E0, .bool false, .bool false, .int .i64 0], .string ⟨([] : List UInt8).toArray⟩, .bool false]) W hc3 ((tk_unlock hl0 hh0 _).trans rfl)
  have hT4 := fun W => takeEnc E0 false false 0 0 (E0) [110, 101, 120, 116] (.tuple #[.agg #[.int .i64 ((E0 + 1) % 256), .bool false, .bool false, .int .i64 1], .string ⟨([110, 101, 120, 116] : List UInt8).toArray⟩, .bool true]) W hc2 ((tk_next hl0 hh0 _).trans rfl)
  have hT5 := fun W => takeEnc E0 false false 0 0 ((E0 + 1 + E2 % 40) % 256) [120] (.tuple #[.agg #[.int .i64 E0, .bool false, .bool true, .int .i64 0], .string ⟨([] : List UInt8).toArray⟩, .bool false]) W hc4 ((tk_ahead hl0 hh0 (by omega) (by omega) _).trans rfl)
  generalize encCmd 0 ((E0 + (41 + E1 % 175)) % 256) [102, 97, 114] = c1 at hE1 hT1
  generalize encCmd 0 E0 [110, 101, 120, 116] = c2 at hE2 hT2 hT4
  generalize encCmd 1 0 [] = c3 at hE3 hT3
  generalize encCmd 0 ((E0 + 1 + E2 % 40) % 256) [120] = c4 at hE4 hT5
  clear hc1 hc2 hc3 hc4
  by_cases hbig : 1048576 < (n : Int)
  · go_enter Try.func9, Try.ntmps9
    go_wp2_with (go_at_call 26; refine (big_any _ _ _ _ (by omega)).mono ?_; rintro e w' ⟨rfl, rfl⟩)
    go_ret
    exact ⟨rfl, Below.refl _ _⟩
  go_enter Try.func9, Try.ntmps9
  go_wp2_with fail
  refine (big_any _ _ _ _ (by omega)).mono ?_
  rintro e w' ⟨rfl, rfl⟩
  go_wp2_with fail
  refine (hat0 _ (Below.refl _ _)).mono ?_
  rintro e w' ⟨rfl, rfl⟩
  go_wp2_with fail
  refine (hat1 _ ((Below.refl _ _).alloc (Nat.le_refl _) _)).mono ?_
  rintro e w' ⟨rfl, rfl⟩
  go_wp2_with fail
  refine (hE1 _).mono ?_
  rintro e w1 ⟨rfl, hb1⟩
  have hs1 : Below w.heap.size w w1 := ((Below.refl _ _).alloc (Nat.le_refl _) _).trans (hb1.mono (by simp))
  have hB1 := below_step hB0 hs1
  have hz1 := hb1.size
  simp only [World.size_alloc] at hz1
  have l0_1 : w.heap.size < w1.heap.size := by omega
  have b0c0_1 : w1.cell? ⟨w.heap.size, 0, none⟩ = some (.int .i64 E0) := (hb1.cell (p := ⟨w.heap.size, 0, none⟩) (by simp)).trans (by simp [go_sem])
  have b0c1_1 : w1.cell? ⟨w.heap.size, 1, none⟩ = some (.bool false) := (hb1.cell (p := ⟨w.heap.size, 1, none⟩) (by simp)).trans (by simp [go_sem])
  have b0c2_1 : w1.cell? ⟨w.heap.size, 2, none⟩ = some (.bool false) := (hb1.cell (p := ⟨w.heap.size, 2, none⟩) (by simp)).trans (by simp [go_sem])
  have b0c3_1 : w1.cell? ⟨w.heap.size, 3, none⟩ = some (.int .i64 0) := (hb1.cell (p := ⟨w.heap.size, 3, none⟩) (by simp)).trans (by simp [go_sem])
  go_wp2_with fail
  refine (hE2 _).mono ?_
  rintro e w2 ⟨rfl, hb2⟩
  have hs2 : Below w1.heap.size w1 w2 := hb2
  have hB2 := below_step hB1 hs2
  have hz2 := hb2.size
  have l0_2 : w.heap.size < w2.heap.size := by omega
  have b0c0_2 : w2.cell? ⟨w.heap.size, 0, none⟩ = some (.int .i64 E0) := (hb2.cell (p := ⟨w.heap.size, 0, none⟩) l0_1).trans b0c0_1
  have b0c1_2 : w2.cell? ⟨w.heap.size, 1, none⟩ = some (.bool false) := (hb2.cell (p := ⟨w.heap.size, 1, none⟩) l0_1).trans b0c1_1
  have b0c2_2 : w2.cell? ⟨w.heap.size, 2, none⟩ = some (.bool false) := (hb2.cell (p := ⟨w.heap.size, 2, none⟩) l0_1).trans b0c2_1
  have b0c3_2 : w2.cell? ⟨w.heap.size, 3, none⟩ = some (.int .i64 0) := (hb2.cell (p := ⟨w.heap.size, 3, none⟩) l0_1).trans b0c3_1
  clear b0c0_1 b0c1_1 b0c2_1 b0c3_1
  go_wp2_with fail
  refine (hT1 _).mono ?_
  rintro e w3 ⟨rfl, hb3⟩
  have hs3 : Below w2.heap.size w2 w3 := hb3
  have hB3 := below_step hB2 hs3
  have hz3 := hb3.size
  have l0_3 : w.heap.size < w3.heap.size := by omega
  have b0c0_3 : w3.cell? ⟨w.heap.size, 0, none⟩ = some (.int .i64 E0) := (hb3.cell (p := ⟨w.heap.size, 0, none⟩) l0_2).trans b0c0_2
  have b0c1_3 : w3.cell? ⟨w.heap.size, 1, none⟩ = some (.bool false) := (hb3.cell (p := ⟨w.heap.size, 1, none⟩) l0_2).trans b0c1_2
  have b0c2_3 : w3.cell? ⟨w.heap.size, 2, none⟩ = some (.bool false) := (hb3.cell (p := ⟨w.heap.size, 2, none⟩) l0_2).trans b0c2_2
  have b0c3_3 : w3.cell? ⟨w.heap.size, 3, none⟩ = some (.int .i64 0) := (hb3.cell (p := ⟨w.heap.size, 3, none⟩) l0_2).trans b0c3_2
  clear b0c0_2 b0c1_2 b0c2_2 b0c3_2
  go_wp2_with fail
  refine (hT2 _).mono ?_
  rintro e w4 ⟨rfl, hb4⟩
  have hs4 : Below w3.heap.size w3 w4 := ((Below.refl _ _).alloc (Nat.le_refl _) _).trans (hb4.mono (by simp))
  have hB4 := below_step hB3 hs4
  have hz4 := hb4.size
  simp only [World.size_alloc] at hz4
  have l0_4 : w.heap.size < w4.heap.size := by omega
  have l1_4 : w3.heap.size < w4.heap.size := by omega
  have b0c0_4 : w4.cell? ⟨w.heap.size, 0, none⟩ = some (.int .i64 E0) := (hb4.cell (p := ⟨w.heap.size, 0, none⟩) (by simp; omega)).trans (by simp [go_sem, b0c0_3, l0_3])
  have b0c1_4 : w4.cell? ⟨w.heap.size, 1, none⟩ = some (.bool false) := (hb4.cell (p := ⟨w.heap.size, 1, none⟩) (by simp; omega)).trans (by simp [go_sem, b0c1_3, l0_3])
  have b0c2_4 : w4.cell? ⟨w.heap.size, 2, none⟩ = some (.bool false) := (hb4.cell (p := ⟨w.heap.size, 2, none⟩) (by simp; omega)).trans (by simp [go_sem, b0c2_3, l0_3])
  have b0c3_4 : w4.cell? ⟨w.heap.size, 3, none⟩ = some (.int .i64 0) := (hb4.cell (p := ⟨w.heap.size, 3, none⟩) (by simp; omega)).trans (by simp [go_sem, b0c3_3, l0_3])
  have b1c0_4 : w4.cell? ⟨w3.heap.size, 0, none⟩ = some (.int .i64 E0) := (hb4.cell (p := ⟨w3.heap.size, 0, none⟩) (by simp)).trans (by simp [go_sem])
  have b1c1_4 : w4.cell? ⟨w3.heap.size, 1, none⟩ = some (.bool true) := (hb4.cell (p := ⟨w3.heap.size, 1, none⟩) (by simp)).trans (by simp [go_sem])
  have b1c2_4 : w4.cell? ⟨w3.heap.size, 2, none⟩ = some (.bool false) := (hb4.cell (p := ⟨w3.heap.size, 2, none⟩) (by simp)).trans (by simp [go_sem])
  have b1c3_4 : w4.cell? ⟨w3.heap.size, 3, none⟩ = some (.int .i64 0) := (hb4.cell (p := ⟨w3.heap.size, 3, none⟩) (by simp)).trans (by simp [go_sem])
  clear b0c0_3 b0c1_3 b0c2_3 b0c3_3
  go_wp2_with fail
  obtain ⟨w5, hw5⟩ : ∃ W, W = (w4.alloc (.cells #[.int .i64 E0, .bool true, .bool false, .int .i64 0] 25)) := ⟨_, rfl⟩
  have hb5 : Below (w4.alloc (.cells #[.int .i64 E0, .bool true, .bool false, .int .i64 0] 25)).heap.size (w4.alloc (.cells #[.int .i64 E0, .bool true, .bool false, .int .i64 0] 25)) w5 := by rw [hw5]; exact Below.refl _ _
  rw [← hw5]
  clear hw5
  have hs5 : Below w4.heap.size w4 w5 := ((Below.refl _ _).alloc (Nat.le_refl _) _).trans (hb5.mono (by simp))
  have hB5 := below_step hB4 hs5
  have hz5 := hb5.size
  simp only [World.size_alloc] at hz5
  have l0_5 : w.heap.size < w5.heap.size := by omega
  have l1_5 : w3.heap.size < w5.heap.size := by omega
  have l2_5 : w4.heap.size < w5.heap.size := by omega
  have b0c0_5 : w5.cell? ⟨w.heap.size, 0, none⟩ = some (.int .i64 E0) := (hb5.cell (p := ⟨w.heap.size, 0, none⟩) (by simp; omega)).trans (by simp [go_sem, b0c0_4, l0_4])
  have b0c1_5 : w5.cell? ⟨w.heap.size, 1, none⟩ = some (.bool false) := (hb5.cell (p := ⟨w.heap.size, 1, none⟩) (by simp; omega)).trans (by simp [go_sem, b0c1_4, l0_4])
  have b0c2_5 : w5.cell? ⟨w.heap.size, 2, none⟩ = some (.bool false) := (hb5.cell (p := ⟨w.heap.size, 2, none⟩) (by simp; omega)).trans (by simp [go_sem, b0c2_4, l0_4])
  have b0c3_5 : w5.cell? ⟨w.heap.size, 3, none⟩ = some (.int .i64 0) := (hb5.cell (p := ⟨w.heap.size, 3, none⟩) (by simp; omega)).trans (by simp [go_sem, b0c3_4, l0_4])
  have b1c0_5 : w5.cell? ⟨w3.heap.size, 0, none⟩ = some (.int .i64 E0) := (hb5.cell (p := ⟨w3.heap.size, 0, none⟩) (by simp; omega)).trans (by simp [go_sem, b1c0_4, l1_4])
  have b1c1_5 : w5.cell? ⟨w3.heap.size, 1, none⟩ = some (.bool true) := (hb5.cell (p := ⟨w3.heap.size, 1, none⟩) (by simp; omega)).trans (by simp [go_sem, b1c1_4, l1_4])
  have b1c2_5 : w5.cell? ⟨w3.heap.size, 2, none⟩ = some (.bool false) := (hb5.cell (p := ⟨w3.heap.size, 2, none⟩) (by simp; omega)).trans (by simp [go_sem, b1c2_4, l1_4])
  have b1c3_5 : w5.cell? ⟨w3.heap.size, 3, none⟩ = some (.int .i64 0) := (hb5.cell (p := ⟨w3.heap.size, 3, none⟩) (by simp; omega)).trans (by simp [go_sem, b1c3_4, l1_4])
  have b2c0_5 : w5.cell? ⟨w4.heap.size, 0, none⟩ = some (.int .i64 E0) := (hb5.cell (p := ⟨w4.heap.size, 0, none⟩) (by simp)).trans (by simp [go_sem])
  have b2c1_5 : w5.cell? ⟨w4.heap.size, 1, none⟩ = some (.bool true) := (hb5.cell (p := ⟨w4.heap.size, 1, none⟩) (by simp)).trans (by simp [go_sem])
  have b2c2_5 : w5.cell? ⟨w4.heap.size, 2, none⟩ = some (.bool false) := (hb5.cell (p := ⟨w4.heap.size, 2, none⟩) (by simp)).trans (by simp [go_sem])
  have b2c3_5 : w5.cell? ⟨w4.heap.size, 3, none⟩ = some (.int .i64 0) := (hb5.cell (p := ⟨w4.heap.size, 3, none⟩) (by simp)).trans (by simp [go_sem])
  clear b0c0_4 b0c1_4 b0c2_4 b0c3_4 b1c0_4 b1c1_4 b1c2_4 b1c3_4
  go_wp2_with fail
  refine wp_region_u [5, 6, 9, 10] 8 (fun k v wx => match k with | 0 => v = .agg #[.int .i64 E0, .bool true, .bool false, .int .i64 0] | 1 => v = .string ⟨c3.toArray⟩ | 2 => v = .tuple #[.agg #[.int .i64 E0, .bool false, .bool false, .int .i64 0], .string ⟨([] : List UInt8).toArray⟩, .bool false] | 3 => v = .tuple #[.agg #[.int .i64 E0, .bool false, .bool false, .int .i64 0], .string ⟨([] : List UInt8).toArray⟩, .bool false] | 4 => v = .agg #[.int .i64 E0, .bool false, .bool false, .int .i64 0] | 5 => v = .string ⟨([] : List UInt8).toArray⟩ | 6 => v = .bool false | 7 => NewBox w5.heap.size 25 4 v wx | 9 => v = .string ⟨([] : List UInt8).toArray⟩ | 10 => v = .bool false | _ => True) (by kernel_rfl) (by kernel_rfl) ?_ ?_ ?_ ?_ (fun h => absurd h (by decide))
  · intro i v wa wb hb hr
    rcases i with _ | _ | _ | _ | _ | _ | _ | _ | _ | _ | _ | i
    · exact hr
    · exact hr
    · exact hr
    · exact hr
    · exact hr
    · exact hr
    · exact hr
    · exact NewBox.stab hb hr
    · exact hr
    · exact hr
    · exact hr
    · exact hr
  · refine steps_step rfl rfl ?_ (steps_step rfl rfl ?_ (steps_step rfl rfl ?_ (steps_step rfl rfl ?_ (steps_step rfl rfl ?_ (steps_late rfl rfl ?_ (steps_late rfl rfl ?_ (steps_step rfl rfl ?_ (steps_sto rfl (steps_late rfl rfl ?_ (steps_late rfl rfl ?_ (steps_nil)))))))))))
    · intro x wx ρ hρ hwx hd K hK
      have e10 : ρ (.tmp 10) = .pointer (some ⟨w4.heap.size, 0, none⟩) := (hρ.inn 10 rfl).trans rfl
      have hρc := hρ.cst
      have hρf := hρ.fn
      clear hρ hd
      obtain ⟨hcx, hfx⟩ := bcell hwx
      go_simp
      exact hK _ _ (Below.refl _ _) rfl
    · intro x wx ρ hρ hwx hd K hK
      have hρc := hρ.cst
      have hρf := hρ.fn
      clear hρ hd
      obtain ⟨hcx, hfx⟩ := bcell hwx
      go_simp
      go_at_call 41
      refine (hE3 _).mono ?_
      rintro e wy ⟨rfl, hby⟩
      exact ⟨_, rfl, hK _ _ hby rfl⟩
    · intro x wx ρ hρ hwx hd K hK
      obtain r0 : (x 0) = .agg #[.int .i64 E0, .bool true, .bool false, .int .i64 0] := hd 0 rfl
      obtain r1 : (x 1) = .string ⟨c3.toArray⟩ := hd 1 rfl
      have e55 := hρ.out 0 55 rfl (by simp)
      rw [r0] at e55
      have e56 := hρ.out 1 56 rfl (by simp)
      rw [r1] at e56
      have hρc := hρ.cst
      have hρf := hρ.fn
      clear hρ hd
      obtain ⟨hcx, hfx⟩ := bcell hwx
      go_simp
      go_at_call 33
      refine (hT3 _).mono ?_
      rintro e wy ⟨rfl, hby⟩
      exact ⟨_, rfl, hK _ _ hby rfl⟩
    · intro x wx ρ hρ hwx hd K hK
      obtain r2 : (x 2) = .tuple #[.agg #[.int .i64 E0, .bool false, .bool false, .int .i64 0], .string ⟨([] : List UInt8).toArray⟩, .bool false] := hd 2 rfl
      have e57 := hρ.out 2 57 rfl (by simp)
      rw [r2] at e57
      have hρc := hρ.cst
      have hρf := hρ.fn
      clear hρ hd
      obtain ⟨hcx, hfx⟩ := bcell hwx
      go_simp
      exact hK _ _ (Below.refl _ _) rfl
    · intro x wx ρ hρ hwx hd K hK
      obtain r3 : (x 3) = .tuple #[.agg #[.int .i64 E0, .bool false, .bool false, .int .i64 0], .string ⟨([] : List UInt8).toArray⟩, .bool false] := hd 3 rfl
      have e54 := hρ.out 3 54 rfl (by simp)
      rw [r3] at e54
      have hρc := hρ.cst
      have hρf := hρ.fn
      clear hρ hd
      obtain ⟨hcx, hfx⟩ := bcell hwx
      go_simp
      exact hK _ _ (Below.refl _ _) rfl
    · intro x wx ρ hρ hwx hd
      obtain r3 : (x 3) = .tuple #[.agg #[.int .i64 E0, .bool false, .bool false, .int .i64 0], .string ⟨([] : List UInt8).toArray⟩, .bool false] := hd 3 rfl (by decide)
      have e54 := hρ.out 3 54 rfl (by simp)
      rw [r3] at e54
      have hρc := hρ.cst
      have hρf := hρ.fn
      clear hρ hd
      obtain ⟨hcx, hfx⟩ := bcell hwx
      exact ⟨_, fun w' => (by go_simp), rfl⟩
    · intro x wx ρ hρ hwx hd
      obtain r3 : (x 3) = .tuple #[.agg #[.int .i64 E0, .bool false, .bool false, .int .i64 0], .string ⟨([] : List UInt8).toArray⟩, .bool false] := hd 3 rfl (by decide)
      have e54 := hρ.out 3 54 rfl (by simp)
      rw [r3] at e54
      have hρc := hρ.cst
      have hρf := hρ.fn
      clear hρ hd
      obtain ⟨hcx, hfx⟩ := bcell hwx
      exact ⟨_, fun w' => (by go_simp), rfl⟩
    · intro x wx ρ hρ hwx hd K hK
      exact alloc_Receiver rfl _ _ _ (hK _ _ (below_al (Below.refl _ _) _) (NewBox.new hwx.size rfl))
    · intro x wx ρ hρ hwx hd
      obtain r5 : (x 5) = .string ⟨([] : List UInt8).toArray⟩ := hd 5 rfl (by decide)
      have e59 := hρ.out 5 59 rfl (by simp)
      rw [r5] at e59
      have hρc := hρ.cst
      have hρf := hρ.fn
      clear hρ hd
      obtain ⟨hcx, hfx⟩ := bcell hwx
      exact ⟨_, fun w' => (by go_simp), rfl⟩
    · intro x wx ρ hρ hwx hd
      obtain r6 : (x 6) = .bool false := hd 6 rfl (by decide)
      have e60 := hρ.out 6 60 rfl (by simp)
      rw [r6] at e60
      have hρc := hρ.cst
      have hρf := hρ.fn
      clear hρ hd
      obtain ⟨hcx, hfx⟩ := bcell hwx
      exact ⟨_, fun w' => (by go_simp), rfl⟩
  · intro o x wx ho hwx hR ρ hρ
    obtain rfl := Option.some.inj ho
    obtain r7 : NewBox w5.heap.size 25 4 (x 7) wx := hR 7 (by decide) (by decide) (by decide)
    obtain r4 : (x 4) = .agg #[.int .i64 E0, .bool false, .bool false, .int .i64 0] := hR 4 (by decide) (by decide) (by decide)
    obtain ⟨Q3, old6, r7, hQa6, hQb6, hQc6, hQd6⟩ := r7
    exact ⟨_, run_store_box (P := Try.prog) (w := wx) (cs := #[.int .i64 E0, .bool false, .bool false, .int .i64 0]) (x := .tmp 13) (y := .tmp 58) rfl ((hρ.out 7 13 rfl (by simp)).trans r7) ((hρ.out 4 58 rfl (by simp)).trans r4) hQc6 (by kernel_rfl) hQd6 rfl⟩
  · intro o x wx w6 ho hwx hR ρ hρ hrun
    obtain rfl := Option.some.inj ho
    obtain r0 : (x 0) = .agg #[.int .i64 E0, .bool true, .bool false, .int .i64 0] := hR 0 (by decide) (by decide)
    obtain r1 : (x 1) = .string ⟨c3.toArray⟩ := hR 1 (by decide) (by decide)
    obtain r2 : (x 2) = .tuple #[.agg #[.int .i64 E0, .bool false, .bool false, .int .i64 0], .string ⟨([] : List UInt8).toArray⟩, .bool false] := hR 2 (by decide) (by decide)
    obtain r3 : (x 3) = .tuple #[.agg #[.int .i64 E0, .bool false, .bool false, .int .i64 0], .string ⟨([] : List UInt8).toArray⟩, .bool false] := hR 3 (by decide) (by decide)
    obtain r4 : (x 4) = .agg #[.int .i64 E0, .bool false, .bool false, .int .i64 0] := hR 4 (by decide) (by decide)
    obtain r5 : (x 5) = .string ⟨([] : List UInt8).toArray⟩ := hR 5 (by decide) (by decide)
    obtain r6 : (x 6) = .bool false := hR 6 (by decide) (by decide)
    obtain r7 : NewBox w5.heap.size 25 4 (x 7) wx := hR 7 (by decide) (by decide)
    obtain r9 : (x 9) = .string ⟨([] : List UInt8).toArray⟩ := hR 9 (by decide) (by decide)
    obtain r10 : (x 10) = .bool false := hR 10 (by decide) (by decide)
    obtain ⟨Q3, old6, r7, hQa6, hQb6, hQc6, hQd6⟩ := r7
    have hrun2 := hrun.symm.trans (run_store_box (P := Try.prog) (w := wx) (cs := #[.int .i64 E0, .bool false, .bool false, .int .i64 0]) (x := .tmp 13) (y := .tmp 58) rfl ((hρ.out 7 13 rfl (by simp)).trans r7) ((hρ.out 4 58 rfl (by simp)).trans r4) hQc6 (by kernel_rfl) hQd6 rfl)
    clear hrun
    injection hrun2 with _ hrun
    obtain ⟨hb6, hQe6, hcq, hg, hh⟩ := box_done hwx hQa6 hQb6 hQc6 hrun
    simp only [frameX, Act.put, List.setIfInBounds_toArray, List.set_cons_zero, List.set_cons_succ, r0, r1, r2, r3, r4, r5, r6, r7, r9, r10]
    clear hrun hR
    have hs6 : Below w5.heap.size w5 w6 := hb6
    have hB6 := below_step hB5 hs6
    have hz6 := hb6.size
    have l0_6 : w.heap.size < w6.heap.size := by omega
    have l1_6 : w3.heap.size < w6.heap.size := by omega
    have l2_6 : w4.heap.size < w6.heap.size := by omega
    have b0c0_6 : w6.cell? ⟨w.heap.size, 0, none⟩ = some (.int .i64 E0) := (hb6.cell (p := ⟨w.heap.size, 0, none⟩) l0_5).trans b0c0_5
    have b0c1_6 : w6.cell? ⟨w.heap.size, 1, none⟩ = some (.bool false) := (hb6.cell (p := ⟨w.heap.size, 1, none⟩) l0_5).trans b0c1_5
    have b0c2_6 : w6.cell? ⟨w.heap.size, 2, none⟩ = some (.bool false) := (hb6.cell (p := ⟨w.heap.size, 2, none⟩) l0_5).trans b0c2_5
    have b0c3_6 : w6.cell? ⟨w.heap.size, 3, none⟩ = some (.int .i64 0) := (hb6.cell (p := ⟨w.heap.size, 3, none⟩) l0_5).trans b0c3_5
    have b1c0_6 : w6.cell? ⟨w3.heap.size, 0, none⟩ = some (.int .i64 E0) := (hb6.cell (p := ⟨w3.heap.size, 0, none⟩) l1_5).trans b1c0_5
    have b1c1_6 : w6.cell? ⟨w3.heap.size, 1, none⟩ = some (.bool true) := (hb6.cell (p := ⟨w3.heap.size, 1, none⟩) l1_5).trans b1c1_5
    have b1c2_6 : w6.cell? ⟨w3.heap.size, 2, none⟩ = some (.bool false) := (hb6.cell (p := ⟨w3.heap.size, 2, none⟩) l1_5).trans b1c2_5
    have b1c3_6 : w6.cell? ⟨w3.heap.size, 3, none⟩ = some (.int .i64 0) := (hb6.cell (p := ⟨w3.heap.size, 3, none⟩) l1_5).trans b1c3_5
    have b2c0_6 : w6.cell? ⟨w4.heap.size, 0, none⟩ = some (.int .i64 E0) := (hb6.cell (p := ⟨w4.heap.size, 0, none⟩) l2_5).trans b2c0_5
    have b2c1_6 : w6.cell? ⟨w4.heap.size, 1, none⟩ = some (.bool true) := (hb6.cell (p := ⟨w4.heap.size, 1, none⟩) l2_5).trans b2c1_5
    have b2c2_6 : w6.cell? ⟨w4.heap.size, 2, none⟩ = some (.bool false) := (hb6.cell (p := ⟨w4.heap.size, 2, none⟩) l2_5).trans b2c2_5
    have b2c3_6 : w6.cell? ⟨w4.heap.size, 3, none⟩ = some (.int .i64 0) := (hb6.cell (p := ⟨w4.heap.size, 3, none⟩) l2_5).trans b2c3_5
    clear b0c0_5 b0c1_5 b0c2_5 b0c3_5 b1c0_5 b1c1_5 b1c2_5 b1c3_5 b2c0_5 b2c1_5 b2c2_5 b2c3_5
    have l3_6 := hQe6
    have b3c0_6 : w6.cell? ⟨Q3, 0, none⟩ = some (.int .i64 E0) := hcq 0 _ rfl
    have b3c1_6 : w6.cell? ⟨Q3, 1, none⟩ = some (.bool false) := hcq 1 _ rfl
    have b3c2_6 : w6.cell? ⟨Q3, 2, none⟩ = some (.bool false) := hcq 2 _ rfl
    have b3c3_6 : w6.cell? ⟨Q3, 3, none⟩ = some (.int .i64 0) := hcq 3 _ rfl
    clear hcq hg hh hQc6 hQd6
    go_wp2_with fail
    refine (hT4 _).mono ?_
    rintro e w7 ⟨rfl, hb7⟩
    have hs7 : Below w6.heap.size w6 w7 := hb7
    have hB7 := below_step hB6 hs7
    have hz7 := hb7.size
    have l0_7 : w.heap.size < w7.heap.size := by omega
    have l1_7 : w3.heap.size < w7.heap.size := by omega
    have l2_7 : w4.heap.size < w7.heap.size := by omega
    have l3_7 : Q3 < w7.heap.size := by omega
    have b0c0_7 : w7.cell? ⟨w.heap.size, 0, none⟩ = some (.int .i64 E0) := (hb7.cell (p := ⟨w.heap.size, 0, none⟩) l0_6).trans b0c0_6
    have b0c1_7 : w7.cell? ⟨w.heap.size, 1, none⟩ = some (.bool false) := (hb7.cell (p := ⟨w.heap.size, 1, none⟩) l0_6).trans b0c1_6
    have b0c2_7 : w7.cell? ⟨w.heap.size, 2, none⟩ = some (.bool false) := (hb7.cell (p := ⟨w.heap.size, 2, none⟩) l0_6).trans b0c2_6
    have b0c3_7 : w7.cell? ⟨w.heap.size, 3, none⟩ = some (.int .i64 0) := (hb7.cell (p := ⟨w.heap.size, 3, none⟩) l0_6).trans b0c3_6
    have b1c0_7 : w7.cell? ⟨w3.heap.size, 0, none⟩ = some (.int .i64 E0) := (hb7.cell (p := ⟨w3.heap.size, 0, none⟩) l1_6).trans b1c0_6
    have b1c1_7 : w7.cell? ⟨w3.heap.size, 1, none⟩ = some (.bool true) := (hb7.cell (p := ⟨w3.heap.size, 1, none⟩) l1_6).trans b1c1_6
    have b1c2_7 : w7.cell? ⟨w3.heap.size, 2, none⟩ = some (.bool false) := (hb7.cell (p := ⟨w3.heap.size, 2, none⟩) l1_6).trans b1c2_6
    have b1c3_7 : w7.cell? ⟨w3.heap.size, 3, none⟩ = some (.int .i64 0) := (hb7.cell (p := ⟨w3.heap.size, 3, none⟩) l1_6).trans b1c3_6
    have b2c0_7 : w7.cell? ⟨w4.heap.size, 0, none⟩ = some (.int .i64 E0) := (hb7.cell (p := ⟨w4.heap.size, 0, none⟩) l2_6).trans b2c0_6
    have b2c1_7 : w7.cell? ⟨w4.heap.size, 1, none⟩ = some (.bool true) := (hb7.cell (p := ⟨w4.heap.size, 1, none⟩) l2_6).trans b2c1_6
    have b2c2_7 : w7.cell? ⟨w4.heap.size, 2, none⟩ = some (.bool false) := (hb7.cell (p := ⟨w4.heap.size, 2, none⟩) l2_6).trans b2c2_6
    have b2c3_7 : w7.cell? ⟨w4.heap.size, 3, none⟩ = some (.int .i64 0) := (hb7.cell (p := ⟨w4.heap.size, 3, none⟩) l2_6).trans b2c3_6
    have b3c0_7 : w7.cell? ⟨Q3, 0, none⟩ = some (.int .i64 E0) := (hb7.cell (p := ⟨Q3, 0, none⟩) l3_6).trans b3c0_6
    have b3c1_7 : w7.cell? ⟨Q3, 1, none⟩ = some (.bool false) := (hb7.cell (p := ⟨Q3, 1, none⟩) l3_6).trans b3c1_6
    have b3c2_7 : w7.cell? ⟨Q3, 2, none⟩ = some (.bool false) := (hb7.cell (p := ⟨Q3, 2, none⟩) l3_6).trans b3c2_6
    have b3c3_7 : w7.cell? ⟨Q3, 3, none⟩ = some (.int .i64 0) := (hb7.cell (p := ⟨Q3, 3, none⟩) l3_6).trans b3c3_6
    clear b0c0_6 b0c1_6 b0c2_6 b0c3_6 b1c0_6 b1c1_6 b1c2_6 b1c3_6 b2c0_6 b2c1_6 b2c2_6 b2c3_6 b3c0_6 b3c1_6 b3c2_6 b3c3_6
    go_wp2_with fail
    obtain ⟨w8, hw8⟩ : ∃ W, W = (w7.alloc (.cells #[.int .i64 ((E0 + 1) % 256), .bool false, .bool false, .int .i64 1] 25)) := ⟨_, rfl⟩
    have hb8 : Below (w7.alloc (.cells #[.int .i64 ((E0 + 1) % 256), .bool false, .bool false, .int .i64 1] 25)).heap.size (w7.alloc (.cells #[.int .i64 ((E0 + 1) % 256), .bool false, .bool false, .int .i64 1] 25)) w8 := by rw [hw8]; exact Below.refl _ _
    rw [← hw8]
    clear hw8
    have hs8 : Below w7.heap.size w7 w8 := ((Below.refl _ _).alloc (Nat.le_refl _) _).trans (hb8.mono (by simp))
    have hB8 := below_step hB7 hs8
    have hz8 := hb8.size
    simp only [World.size_alloc] at hz8
    have l0_8 : w.heap.size < w8.heap.size := by omega
    have l1_8 : w3.heap.size < w8.heap.size := by omega
    have l2_8 : w4.heap.size < w8.heap.size := by omega
    have l3_8 : Q3 < w8.heap.size := by omega
    have l4_8 : w7.heap.size < w8.heap.size := by omega
    have b0c0_8 : w8.cell? ⟨w.heap.size, 0, none⟩ = some (.int .i64 E0) := (hb8.cell (p := ⟨w.heap.size, 0, none⟩) (by simp; omega)).trans (by simp [go_sem, b0c0_7, l0_7])
    have b0c1_8 : w8.cell? ⟨w.heap.size, 1, none⟩ = some (.bool false) := (hb8.cell (p := ⟨w.heap.size, 1, none⟩) (by simp; omega)).trans (by simp [go_sem, b0c1_7, l0_7])
    have b0c2_8 : w8.cell? ⟨w.heap.size, 2, none⟩ = some (.bool false) := (hb8.cell (p := ⟨w.heap.size, 2, none⟩) (by simp; omega)).trans (by simp [go_sem, b0c2_7, l0_7])
    have b0c3_8 : w8.cell? ⟨w.heap.size, 3, none⟩ = some (.int .i64 0) := (hb8.cell (p := ⟨w.heap.size, 3, none⟩) (by simp; omega)).trans (by simp [go_sem, b0c3_7, l0_7])
    have b1c0_8 : w8.cell? ⟨w3.heap.size, 0, none⟩ = some (.int .i64 E0) := (hb8.cell (p := ⟨w3.heap.size, 0, none⟩) (by simp; omega)).trans (by simp [go_sem, b1c0_7, l1_7])
    have b1c1_8 : w8.cell? ⟨w3.heap.size, 1, none⟩ = some (.bool true) := (hb8.cell (p := ⟨w3.heap.size, 1, none⟩) (by simp; omega)).trans (by simp [go_sem, b1c1_7, l1_7])
    have b1c2_8 : w8.cell? ⟨w3.heap.size, 2, none⟩ = some (.bool false) := (hb8.cell (p := ⟨w3.heap.size, 2, none⟩) (by simp; omega)).trans (by simp [go_sem, b1c2_7, l1_7])
    have b1c3_8 : w8.cell? ⟨w3.heap.size, 3, none⟩ = some (.int .i64 0) := (hb8.cell (p := ⟨w3.heap.size, 3, none⟩) (by simp; omega)).trans (by simp [go_sem, b1c3_7, l1_7])
    have b2c0_8 : w8.cell? ⟨w4.heap.size, 0, none⟩ = some (.int .i64 E0) := (hb8.cell (p := ⟨w4.heap.size, 0, none⟩) (by simp; omega)).trans (by simp [go_sem, b2c0_7, l2_7])
    have b2c1_8 : w8.cell? ⟨w4.heap.size, 1, none⟩ = some (.bool true) := (hb8.cell (p := ⟨w4.heap.size, 1, none⟩) (by simp; omega)).trans (by simp [go_sem, b2c1_7, l2_7])
    have b2c2_8 : w8.cell? ⟨w4.heap.size, 2, none⟩ = some (.bool false) := (hb8.cell (p := ⟨w4.heap.size, 2, none⟩) (by simp; omega)).trans (by simp [go_sem, b2c2_7, l2_7])
    have b2c3_8 : w8.cell? ⟨w4.heap.size, 3, none⟩ = some (.int .i64 0) := (hb8.cell (p := ⟨w4.heap.size, 3, none⟩) (by simp; omega)).trans (by simp [go_sem, b2c3_7, l2_7])
    have b3c0_8 : w8.cell? ⟨Q3, 0, none⟩ = some (.int .i64 E0) := (hb8.cell (p := ⟨Q3, 0, none⟩) (by simp; omega)).trans (by simp [go_sem, b3c0_7, l3_7])
    have b3c1_8 : w8.cell? ⟨Q3, 1, none⟩ = some (.bool false) := (hb8.cell (p := ⟨Q3, 1, none⟩) (by simp; omega)).trans (by simp [go_sem, b3c1_7, l3_7])
    have b3c2_8 : w8.cell? ⟨Q3, 2, none⟩ = some (.bool false) := (hb8.cell (p := ⟨Q3, 2, none⟩) (by simp; omega)).trans (by simp [go_sem, b3c2_7, l3_7])
    have b3c3_8 : w8.cell? ⟨Q3, 3, none⟩ = some (.int .i64 0) := (hb8.cell (p := ⟨Q3, 3, none⟩) (by simp; omega)).trans (by simp [go_sem, b3c3_7, l3_7])
    have b4c0_8 : w8.cell? ⟨w7.heap.size, 0, none⟩ = some (.int .i64 ((E0 + 1) % 256)) := (hb8.cell (p := ⟨w7.heap.size, 0, none⟩) (by simp)).trans (by simp [go_sem])
    have b4c1_8 : w8.cell? ⟨w7.heap.size, 1, none⟩ = some (.bool false) := (hb8.cell (p := ⟨w7.heap.size, 1, none⟩) (by simp)).trans (by simp [go_sem])
    have b4c2_8 : w8.cell? ⟨w7.heap.size, 2, none⟩ = some (.bool false) := (hb8.cell (p := ⟨w7.heap.size, 2, none⟩) (by simp)).trans (by simp [go_sem])
    have b4c3_8 : w8.cell? ⟨w7.heap.size, 3, none⟩ = some (.int .i64 1) := (hb8.cell (p := ⟨w7.heap.size, 3, none⟩) (by simp)).trans (by simp [go_sem])
    clear b0c0_7 b0c1_7 b0c2_7 b0c3_7 b1c0_7 b1c1_7 b1c2_7 b1c3_7 b2c0_7 b2c1_7 b2c2_7 b2c3_7 b3c0_7 b3c1_7 b3c2_7 b3c3_7
    go_wp2_with fail
    refine wp_region_u [13, 14, 17, 18] 16 (fun k v wx => match k with | 0 => v = .agg #[.int .i64 E0, .bool false, .bool false, .int .i64 0] | 1 => v = .pointer (some ⟨w.heap.size, 0, none⟩) | 2 => v = .int .i64 E0 | 3 => v = .int .i64 (E0 + 1) | 4 => v = .slice A n c | 5 => v = .int .i64 E2 | 6 => v = .int .i64 (E2 % 40) | 7 => v = .int .i64 (E0 + 1 + E2 % 40) | 8 => v = .int .i64 ((E0 + 1 + E2 % 40) % 256) | 9 => v = .string ⟨c4.toArray⟩ | 10 => v = .tuple #[.agg #[.int .i64 E0, .bool false, .bool true, .int .i64 0], .string ⟨([] : List UInt8).toArray⟩, .bool false] | 11 => v = .tuple #[.agg #[.int .i64 E0, .bool false, .bool true, .int .i64 0], .string ⟨([] : List UInt8).toArray⟩, .bool false] | 12 => v = .agg #[.int .i64 E0, .bool false, .bool true, .int .i64 0] | 13 => v = .string ⟨([] : List UInt8).toArray⟩ | 14 => v = .bool false | 15 => NewBox w8.heap.size 25 4 v wx | 17 => v = .string ⟨([] : List UInt8).toArray⟩ | 18 => v = .bool false | _ => True) (by kernel_rfl) (by kernel_rfl) ?_ ?_ ?_ ?_ (fun h => absurd h (by decide))
    · intro i v wa wb hb hr
      rcases i with _ | _ | _ | _ | _ | _ | _ | _ | _ | _ | _ | _ | _ | _ | _ | _ | _ | _ | _ | i
      · exact hr
      · exact hr
      · exact hr
      · exact hr
      · exact hr
      · exact hr
      · exact hr
      · exact hr
      · exact hr
      · exact hr
      · exact hr
      · exact hr
      · exact hr
      · exact hr
      · exact hr
      · exact NewBox.stab hb hr
      · exact hr
      · exact hr
      · exact hr
      · exact hr
    · refine steps_step rfl rfl ?_ (steps_step rfl rfl ?_ (steps_step rfl rfl ?_ (steps_step rfl rfl ?_ (steps_step rfl rfl ?_ (steps_step rfl rfl ?_ (steps_step rfl rfl ?_ (steps_step rfl rfl ?_ (steps_step rfl rfl ?_ (steps_step rfl rfl ?_ (steps_step rfl rfl ?_ (steps_step rfl rfl ?_ (steps_step rfl rfl ?_ (steps_late rfl rfl ?_ (steps_late rfl rfl ?_ (steps_step rfl rfl ?_ (steps_sto rfl (steps_late rfl rfl ?_ (steps_late rfl rfl ?_ (steps_nil)))))))))))))))))))
      · intro x wx ρ hρ hwx hd K hK
        have e3 : ρ (.tmp 3) = .pointer (some ⟨w.heap.size, 0, none⟩) := (hρ.inn 3 rfl).trans rfl
        have hρc := hρ.cst
        have hρf := hρ.fn
        clear hρ hd
        obtain ⟨hcx, hfx⟩ := bcell hwx
        go_simp
        exact hK _ _ (Below.refl _ _) rfl
      · intro x wx ρ hρ hwx hd K hK
        have e3 : ρ (.tmp 3) = .pointer (some ⟨w.heap.size, 0, none⟩) := (hρ.inn 3 rfl).trans rfl
        have hρc := hρ.cst
        have hρf := hρ.fn
        clear hρ hd
        obtain ⟨hcx, hfx⟩ := bcell hwx
        go_simp
        exact hK _ _ (Below.refl _ _) rfl
      · intro x wx ρ hρ hwx hd K hK
        obtain r1 : (x 1) = .pointer (some ⟨w.heap.size, 0, none⟩) := hd 1 rfl
        have e70 := hρ.out 1 70 rfl (by simp)
        rw [r1] at e70
        have hρc := hρ.cst
        have hρf := hρ.fn
        clear hρ hd
        obtain ⟨hcx, hfx⟩ := bcell hwx
        go_simp
        exact hK _ _ (Below.refl _ _) rfl
      · intro x wx ρ hρ hwx hd K hK
        obtain r2 : (x 2) = .int .i64 E0 := hd 2 rfl
        have e71 := hρ.out 2 71 rfl (by simp)
        rw [r2] at e71
        have hρc := hρ.cst
        have hρf := hρ.fn
        clear hρ hd
        obtain ⟨hcx, hfx⟩ := bcell hwx
        go_simp
        exact hK _ _ (Below.refl _ _) (congrArg (Value.int .i64) (IntWalk.i64_in _ (by omega)))
      · intro x wx ρ hρ hwx hd K hK
        have e0 : ρ (.tmp 0) = .slice A n c := (hρ.inn 0 rfl).trans rfl
        have hρc := hρ.cst
        have hρf := hρ.fn
        clear hρ hd
        obtain ⟨hcx, hfx⟩ := bcell hwx
        go_simp
        exact hK _ _ (Below.refl _ _) rfl
      · intro x wx ρ hρ hwx hd K hK
        obtain r4 : (x 4) = .slice A n c := hd 4 rfl
        have e73 := hρ.out 4 73 rfl (by simp)
        rw [r4] at e73
        have hρc := hρ.cst
        have hρf := hρ.fn
        clear hρ hd
        obtain ⟨hcx, hfx⟩ := bcell hwx
        go_simp
        go_at_call 28
        refine (hat2 _ (below_step hB8 hwx)).mono ?_
        rintro e wy ⟨rfl, rfl⟩
        exact ⟨_, rfl, hK _ _ (Below.refl _ _) rfl⟩
      · intro x wx ρ hρ hwx hd K hK
        obtain r5 : (x 5) = .int .i64 E2 := hd 5 rfl
        have e74 := hρ.out 5 74 rfl (by simp)
        rw [r5] at e74
        have hρc := hρ.cst
        have hρf := hρ.fn
        clear hρ hd
        obtain ⟨hcx, hfx⟩ := bcell hwx
        go_simp
        exact hK _ _ (Below.refl _ _) (congrArg (Value.int .i64) (Int.tmod_eq_emod_of_nonneg (by omega)))
      · intro x wx ρ hρ hwx hd K hK
        obtain r3 : (x 3) = .int .i64 (E0 + 1) := hd 3 rfl
        obtain r6 : (x 6) = .int .i64 (E2 % 40) := hd 6 rfl
        have e72 := hρ.out 3 72 rfl (by simp)
        rw [r3] at e72
        have e75 := hρ.out 6 75 rfl (by simp)
        rw [r6] at e75
        have hρc := hρ.cst
        have hρf := hρ.fn
        clear hρ hd
        obtain ⟨hcx, hfx⟩ := bcell hwx
        go_simp
        exact hK _ _ (Below.refl _ _) (congrArg (Value.int .i64) (IntWalk.i64_in _ (by omega)))
      · intro x wx ρ hρ hwx hd K hK
        obtain r7 : (x 7) = .int .i64 (E0 + 1 + E2 % 40) := hd 7 rfl
        have e76 := hρ.out 7 76 rfl (by simp)
        rw [r7] at e76
        have hρc := hρ.cst
        have hρf := hρ.fn
        clear hρ hd
        obtain ⟨hcx, hfx⟩ := bcell hwx
        go_simp
        exact hK _ _ (Below.refl _ _) (congrArg (Value.int .i64) (Int.tmod_eq_emod_of_nonneg (by omega)))
      · intro x wx ρ hρ hwx hd K hK
        obtain r8 : (x 8) = .int .i64 ((E0 + 1 + E2 % 40) % 256) := hd 8 rfl
        have e77 := hρ.out 8 77 rfl (by simp)
        rw [r8] at e77
        have hρc := hρ.cst
        have hρf := hρ.fn
        clear hρ hd
        obtain ⟨hcx, hfx⟩ := bcell hwx
        go_simp
        go_at_call 41
        refine (hE4 _).mono ?_
        rintro e wy ⟨rfl, hby⟩
        exact ⟨_, rfl, hK _ _ hby rfl⟩
      · intro x wx ρ hρ hwx hd K hK
        obtain r0 : (x 0) = .agg #[.int .i64 E0, .bool false, .bool false, .int .i64 0] := hd 0 rfl
        obtain r9 : (x 9) = .string ⟨c4.toArray⟩ := hd 9 rfl
        have e69 := hρ.out 0 69 rfl (by simp)
        rw [r0] at e69
        have e78 := hρ.out 9 78 rfl (by simp)
        rw [r9] at e78
        have hρc := hρ.cst
        have hρf := hρ.fn
        clear hρ hd
        obtain ⟨hcx, hfx⟩ := bcell hwx
        go_simp
        go_at_call 33
        refine (hT5 _).mono ?_
        rintro e wy ⟨rfl, hby⟩
        exact ⟨_, rfl, hK _ _ hby rfl⟩
      · intro x wx ρ hρ hwx hd K hK
        obtain r10 : (x 10) = .tuple #[.agg #[.int .i64 E0, .bool false, .bool true, .int .i64 0], .string ⟨([] : List UInt8).toArray⟩, .bool false] := hd 10 rfl
        have e79 := hρ.out 10 79 rfl (by simp)
        rw [r10] at e79
        have hρc := hρ.cst
        have hρf := hρ.fn
        clear hρ hd
        obtain ⟨hcx, hfx⟩ := bcell hwx
        go_simp
        exact hK _ _ (Below.refl _ _) rfl
      · intro x wx ρ hρ hwx hd K hK
        obtain r11 : (x 11) = .tuple #[.agg #[.int .i64 E0, .bool false, .bool true, .int .i64 0], .string ⟨([] : List UInt8).toArray⟩, .bool false] := hd 11 rfl
        have e68 := hρ.out 11 68 rfl (by simp)
        rw [r11] at e68
        have hρc := hρ.cst
        have hρf := hρ.fn
        clear hρ hd
        obtain ⟨hcx, hfx⟩ := bcell hwx
        go_simp
        exact hK _ _ (Below.refl _ _) rfl
      · intro x wx ρ hρ hwx hd
        obtain r11 : (x 11) = .tuple #[.agg #[.int .i64 E0, .bool false, .bool true, .int .i64 0], .string ⟨([] : List UInt8).toArray⟩, .bool false] := hd 11 rfl (by decide)
        have e68 := hρ.out 11 68 rfl (by simp)
        rw [r11] at e68
        have hρc := hρ.cst
        have hρf := hρ.fn
        clear hρ hd
        obtain ⟨hcx, hfx⟩ := bcell hwx
        exact ⟨_, fun w' => (by go_simp), rfl⟩
      · intro x wx ρ hρ hwx hd
        obtain r11 : (x 11) = .tuple #[.agg #[.int .i64 E0, .bool false, .bool true, .int .i64 0], .string ⟨([] : List UInt8).toArray⟩, .bool false] := hd 11 rfl (by decide)
        have e68 := hρ.out 11 68 rfl (by simp)
        rw [r11] at e68
        have hρc := hρ.cst
        have hρf := hρ.fn
        clear hρ hd
        obtain ⟨hcx, hfx⟩ := bcell hwx
        exact ⟨_, fun w' => (by go_simp), rfl⟩
      · intro x wx ρ hρ hwx hd K hK
        exact alloc_Receiver rfl _ _ _ (hK _ _ (below_al (Below.refl _ _) _) (NewBox.new hwx.size rfl))
      · intro x wx ρ hρ hwx hd
        obtain r13 : (x 13) = .string ⟨([] : List UInt8).toArray⟩ := hd 13 rfl (by decide)
        have e81 := hρ.out 13 81 rfl (by simp)
        rw [r13] at e81
        have hρc := hρ.cst
        have hρf := hρ.fn
        clear hρ hd
        obtain ⟨hcx, hfx⟩ := bcell hwx
        exact ⟨_, fun w' => (by go_simp), rfl⟩
      · intro x wx ρ hρ hwx hd
        obtain r14 : (x 14) = .bool false := hd 14 rfl (by decide)
        have e82 := hρ.out 14 82 rfl (by simp)
        rw [r14] at e82
        have hρc := hρ.cst
        have hρf := hρ.fn
        clear hρ hd
        obtain ⟨hcx, hfx⟩ := bcell hwx
        exact ⟨_, fun w' => (by go_simp), rfl⟩
    · intro o x wx ho hwx hR ρ hρ
      obtain rfl := Option.some.inj ho
      obtain r15 : NewBox w8.heap.size 25 4 (x 15) wx := hR 15 (by decide) (by decide) (by decide)
      obtain r12 : (x 12) = .agg #[.int .i64 E0, .bool false, .bool true, .int .i64 0] := hR 12 (by decide) (by decide) (by decide)
      obtain ⟨Q5, old9, r15, hQa9, hQb9, hQc9, hQd9⟩ := r15
      exact ⟨_, run_store_box (P := Try.prog) (w := wx) (cs := #[.int .i64 E0, .bool false, .bool true, .int .i64 0]) (x := .tmp 19) (y := .tmp 80) rfl ((hρ.out 15 19 rfl (by simp)).trans r15) ((hρ.out 12 80 rfl (by simp)).trans r12) hQc9 (by kernel_rfl) hQd9 rfl⟩
    · intro o x wx w9 ho hwx hR ρ hρ hrun
      obtain rfl := Option.some.inj ho
      obtain r0 : (x 0) = .agg #[.int .i64 E0, .bool false, .bool false, .int .i64 0] := hR 0 (by decide) (by decide)
      obtain r1 : (x 1) = .pointer (some ⟨w.heap.size, 0, none⟩) := hR 1 (by decide) (by decide)
      obtain r2 : (x 2) = .int .i64 E0 := hR 2 (by decide) (by decide)
      obtain r3 : (x 3) = .int .i64 (E0 + 1) := hR 3 (by decide) (by decide)
      obtain r4 : (x 4) = .slice A n c := hR 4 (by decide) (by decide)
      obtain r5 : (x 5) = .int .i64 E2 := hR 5 (by decide) (by decide)
      obtain r6 : (x 6) = .int .i64 (E2 % 40) := hR 6 (by decide) (by decide)
      obtain r7 : (x 7) = .int .i64 (E0 + 1 + E2 % 40) := hR 7 (by decide) (by decide)
      obtain r8 : (x 8) = .int .i64 ((E0 + 1 + E2 % 40) % 256) := hR 8 (by decide) (by decide)
      obtain r9 : (x 9) = .string ⟨c4.toArray⟩ := hR 9 (by decide) (by decide)
      obtain r10 : (x 10) = .tuple #[.agg #[.int .i64 E0, .bool false, .bool true, .int .i64 0], .string ⟨([] : List UInt8).toArray⟩, .bool false] := hR 10 (by decide) (by decide)
      obtain r11 : (x 11) = .tuple #[.agg #[.int .i64 E0, .bool false, .bool true, .int .i64 0], .string ⟨([] : List UInt8).toArray⟩, .bool false] := hR 11 (by decide) (by decide)
      obtain r12 : (x 12) = .agg #[.int .i64 E0, .bool false, .bool true, .int .i64 0] := hR 12 (by decide) (by decide)
      obtain r13 : (x 13) = .string ⟨([] : List UInt8).toArray⟩ := hR 13 (by decide) (by decide)
      obtain r14 : (x 14) = .bool false := hR 14 (by decide) (by decide)
      obtain r15 : NewBox w8.heap.size 25 4 (x 15) wx := hR 15 (by decide) (by decide)
      obtain r17 : (x 17) = .string ⟨([] : List UInt8).toArray⟩ := hR 17 (by decide) (by decide)
      obtain r18 : (x 18) = .bool false := hR 18 (by decide) (by decide)
      obtain ⟨Q5, old9, r15, hQa9, hQb9, hQc9, hQd9⟩ := r15
      have hrun2 := hrun.symm.trans (run_store_box (P := Try.prog) (w := wx) (cs := #[.int .i64 E0, .bool false, .bool true, .int .i64 0]) (x := .tmp 19) (y := .tmp 80) rfl ((hρ.out 15 19 rfl (by simp)).trans r15) ((hρ.out 12 80 rfl (by simp)).trans r12) hQc9 (by kernel_rfl) hQd9 rfl)
      clear hrun
      injection hrun2 with _ hrun
      obtain ⟨hb9, hQe9, hcq, hg, hh⟩ := box_done hwx hQa9 hQb9 hQc9 hrun
      simp only [frameX, Act.put, List.setIfInBounds_toArray, List.set_cons_zero, List.set_cons_succ, r0, r1, r2, r3, r4, r5, r6, r7, r8, r9, r10, r11, r12, r13, r14, r15, r17, r18]
      clear hrun hR
      have hs9 : Below w8.heap.size w8 w9 := hb9
      have hB9 := below_step hB8 hs9
      have hz9 := hb9.size
      have l0_9 : w.heap.size < w9.heap.size := by omega
      have l1_9 : w3.heap.size < w9.heap.size := by omega
      have l2_9 : w4.heap.size < w9.heap.size := by omega
      have l3_9 : Q3 < w9.heap.size := by omega
      have l4_9 : w7.heap.size < w9.heap.size := by omega
      have b0c0_9 : w9.cell? ⟨w.heap.size, 0, none⟩ = some (.int .i64 E0) := (hb9.cell (p := ⟨w.heap.size, 0, none⟩) l0_8).trans b0c0_8
      have b0c1_9 : w9.cell? ⟨w.heap.size, 1, none⟩ = some (.bool false) := (hb9.cell (p := ⟨w.heap.size, 1, none⟩) l0_8).trans b0c1_8
      have b0c2_9 : w9.cell? ⟨w.heap.size, 2, none⟩ = some (.bool false) := (hb9.cell (p := ⟨w.heap.size, 2, none⟩) l0_8).trans b0c2_8
      have b0c3_9 : w9.cell? ⟨w.heap.size, 3, none⟩ = some (.int .i64 0) := (hb9.cell (p := ⟨w.heap.size, 3, none⟩) l0_8).trans b0c3_8
      have b1c0_9 : w9.cell? ⟨w3.heap.size, 0, none⟩ = some (.int .i64 E0) := (hb9.cell (p := ⟨w3.heap.size, 0, none⟩) l1_8).trans b1c0_8
      have b1c1_9 : w9.cell? ⟨w3.heap.size, 1, none⟩ = some (.bool true) := (hb9.cell (p := ⟨w3.heap.size, 1, none⟩) l1_8).trans b1c1_8
      have b1c2_9 : w9.cell? ⟨w3.heap.size, 2, none⟩ = some (.bool false) := (hb9.cell (p := ⟨w3.heap.size, 2, none⟩) l1_8).trans b1c2_8
      have b1c3_9 : w9.cell? ⟨w3.heap.size, 3, none⟩ = some (.int .i64 0) := (hb9.cell (p := ⟨w3.heap.size, 3, none⟩) l1_8).trans b1c3_8
      have b2c0_9 : w9.cell? ⟨w4.heap.size, 0, none⟩ = some (.int .i64 E0) := (hb9.cell (p := ⟨w4.heap.size, 0, none⟩) l2_8).trans b2c0_8
      have b2c1_9 : w9.cell? ⟨w4.heap.size, 1, none⟩ = some (.bool true) := (hb9.cell (p := ⟨w4.heap.size, 1, none⟩) l2_8).trans b2c1_8
      have b2c2_9 : w9.cell? ⟨w4.heap.size, 2, none⟩ = some (.bool false) := (hb9.cell (p := ⟨w4.heap.size, 2, none⟩) l2_8).trans b2c2_8
      have b2c3_9 : w9.cell? ⟨w4.heap.size, 3, none⟩ = some (.int .i64 0) := (hb9.cell (p := ⟨w4.heap.size, 3, none⟩) l2_8).trans b2c3_8
      have b3c0_9 : w9.cell? ⟨Q3, 0, none⟩ = some (.int .i64 E0) := (hb9.cell (p := ⟨Q3, 0, none⟩) l3_8).trans b3c0_8
      have b3c1_9 : w9.cell? ⟨Q3, 1, none⟩ = some (.bool false) := (hb9.cell (p := ⟨Q3, 1, none⟩) l3_8).trans b3c1_8
      have b3c2_9 : w9.cell? ⟨Q3, 2, none⟩ = some (.bool false) := (hb9.cell (p := ⟨Q3, 2, none⟩) l3_8).trans b3c2_8
      have b3c3_9 : w9.cell? ⟨Q3, 3, none⟩ = some (.int .i64 0) := (hb9.cell (p := ⟨Q3, 3, none⟩) l3_8).trans b3c3_8
      have b4c0_9 : w9.cell? ⟨w7.heap.size, 0, none⟩ = some (.int .i64 ((E0 + 1) % 256)) := (hb9.cell (p := ⟨w7.heap.size, 0, none⟩) l4_8).trans b4c0_8
      have b4c1_9 : w9.cell? ⟨w7.heap.size, 1, none⟩ = some (.bool false) := (hb9.cell (p := ⟨w7.heap.size, 1, none⟩) l4_8).trans b4c1_8
      have b4c2_9 : w9.cell? ⟨w7.heap.size, 2, none⟩ = some (.bool false) := (hb9.cell (p := ⟨w7.heap.size, 2, none⟩) l4_8).trans b4c2_8
      have b4c3_9 : w9.cell? ⟨w7.heap.size, 3, none⟩ = some (.int .i64 1) := (hb9.cell (p := ⟨w7.heap.size, 3, none⟩) l4_8).trans b4c3_8
      clear b0c0_8 b0c1_8 b0c2_8 b0c3_8 b1c0_8 b1c1_8 b1c2_8 b1c3_8 b2c0_8 b2c1_8 b2c2_8 b2c3_8 b3c0_8 b3c1_8 b3c2_8 b3c3_8 b4c0_8 b4c1_8 b4c2_8 b4c3_8
      have l5_9 := hQe9
      have b5c0_9 : w9.cell? ⟨Q5, 0, none⟩ = some (.int .i64 E0) := hcq 0 _ rfl
      have b5c1_9 : w9.cell? ⟨Q5, 1, none⟩ = some (.bool false) := hcq 1 _ rfl
      have b5c2_9 : w9.cell? ⟨Q5, 2, none⟩ = some (.bool true) := hcq 2 _ rfl
      have b5c3_9 : w9.cell? ⟨Q5, 3, none⟩ = some (.int .i64 0) := hcq 3 _ rfl
      clear hcq hg hh hQc9 hQd9
      go_wp2
      go_ret
      exact ⟨rfl, hB9⟩

/-! ### The row's step, written by a program of ours (frame.py) -/
namespace fnLockedOutDone
open Go.ChangeShapes Go.WideShapes Go.ChangeAt
open Go.ChangeMaps (open_string)
theorem own : ownKnob Try.prog.godebug = none := by kernel_rfl
theorem laidOut : laidOutB Try.prog = true := by kernel_rfl
set_option maxRecDepth 100000 in
theorem lifted (os : Os) (started : os.Started) (H : Type) (enc : TypeId × Value → H) :
    ReturnsInHanded {} Try.checked os 9 .any (Rows.fnLockedOutSpec.pre6 enc Try.prog Try.f9 Rows.fnLockedOutRow.domain false) (Rows.fnLockedOutSpec.post enc Try.prog Try.f9 false true false false) := by
  refine returnsInHanded_of_change (C := Try.checked) own started (by kernel_rfl) Try.func9
    (ChangeSpec.witness6 (enc := enc) (C := Try.checked) false ⟨#[], #[.slice none 0 0], []⟩ 8 (by kernel_rfl) (by kernel_rfl) (by kernel_rfl) (by kernel_rfl)) ?_
  intro W base args ds gs before hval0 hW hcnd _
  have hval : ∀ (j : Nat) t v, Try.f9.params[j]? = some t → args[j]? = some v → Value.okWide Try.prog W .any base t v := hval0
  have hW' := hW
  obtain ⟨p, q, hA0, hV, rfl, hfz, hnd⟩ := hW
  have hA : DataW.TrodAll enc Try.prog W 0 (fun _ => true) true Try.f9.params.toList args.toList ds p := hA0
  rw [Try.params9] at hA hval
  obtain ⟨v0, vs0, d0, ds0, p0, q0, hargs, rfl, rfl, h0, r0⟩ := trodAll_cons hA
  obtain ⟨rfl, rfl, rfl⟩ := trodAll_nil r0
  obtain rfl : args = #[v0] := by cases args; simp_all
  obtain ⟨rfl, rfl⟩ := trodVars_none hV
  have k0 := h0
  have lt0 : ∀ x ∈ p0, x.block < W.heap.size := by obtain ⟨m, hm⟩ := k0; exact DataW.trod_lt m _ _ _ hm
  obtain ⟨A0, n0, c0, rs0, hv0, hlen0, hnc0, hcm0, hrd0, _⟩ := open_slice_of cB (fun _ => True) 1 cB_len Try.underlying35 (by kernel_rfl) (by decide) (fun _ _ _ hh => el_byte Try.underlying5 hh) h0.choose_spec
  obtain ⟨_, _, _, rfl⟩ := okWide_slice Try.underlying35 (hval 0 35 v0 rfl rfl)
  simp only [Value.cells, List.cons.injEq, Value.slice.injEq, and_true] at hv0
  obtain ⟨rfl, rfl, rfl⟩ := hv0
  clear hA0 hval0
  refine (fnLockedOut_walk (w := W) _ _ _ rs0 hlen0 hnc0 hcm0 hrd0).mono fun e W' ⟨he, bel⟩ => ?_
  subst he
  exact ⟨_, rfl, _, _, _, [], _, [], hW', trodAll_mk1 (shut_bool Try.underlying4 _), (trodAll_cons_mk (Below.trod laidOut (by kernel_rfl) (of_decide_eq_true (by kernel_rfl)) k0 bel lt0) trodAll_mk0), rfl, bel.frame _, fun h => by cases h⟩
theorem proved : Rows.FnLockedOutSaid :=
  OpenClaim.holds_of_wide 9 Try.f9 rfl rfl rfl rfl rfl rfl rfl ⟨rfl, rfl, rfl, rfl, rfl⟩ rfl rfl rfl rfl rfl (by kernel_rfl) Try.func9 (by kernel_rfl)
    (of_decide_eq_true (by kernel_rfl)) (by unfold Func.isWrapper; first | (rw [if_pos (by decide +kernel)]; kernel_rfl) | (rw [if_neg (by decide +kernel)]; exact ⟨rfl, rfl⟩))
    (fun os started H enc _ => lifted os started H enc)
end fnLockedOutDone
end Go.Proofs.Ytpnejmlbfadaaaa
