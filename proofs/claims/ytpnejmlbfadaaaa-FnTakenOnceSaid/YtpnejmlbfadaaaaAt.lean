/- Contracts of small helpers of the laws: a byte of the code, a text with one byte turned. No condition. -/
import Derived.Test.YtpnejmlbfadaaaaBase
import Derived.Test.YtpnejmlbfadaaaaOpen
namespace Go.Proofs.Ytpnejmlbfadaaaa
open Go.RowKit

def atV (zs : List UInt8) (i : Int) : Int := nth zs ((i * 5 + 1) % zs.length)
theorem atV_lo (zs : List UInt8) (i : Int) : 0 ≤ atV zs i := nth_lo _ _
theorem atV_hi (zs : List UInt8) (i : Int) : atV zs i ≤ 255 := nth_hi _ _

theorem at_any {w : World} (A : Option Addr) (n c : Nat) (zs : List UInt8) (hlen : zs.length = n) (_hnc : n ≤ c) (_hcm : c ≤ maxLen) (hrd : Rd w 1 A n (zs.flatMap cB)) (i : Int) (hi : 0 ≤ i) (hi' : i ≤ 1000000000) :
    Calls Try.prog 28 #[.slice A n c, .int .i64 i] w fun e w' => e = .returned (.int .i64 (atV zs i)) ∧ w = w' := by
  by_cases hz : (n : Int) = 0
  · have hv := Lib.hid (show atV zs i = 0 by
      have : zs = [] := List.length_eq_zero_iff.1 (by omega)
      subst this
      rfl)
    go_enter Try.func28, Try.ntmps28
    go_wp2
    go_ret
    exact ⟨by rw [hv.out]; simp, rfl⟩
  · have hm : (i * 5 + 1).tmod n = (i * 5 + 1) % n := Int.tmod_eq_emod_of_nonneg (by omega)
    have hk0 : 0 ≤ (i * 5 + 1) % (n : Int) := Int.emod_nonneg _ hz
    have hk1 : (i * 5 + 1) % (n : Int) < n := Int.emod_lt_of_pos _ (by omega)
    obtain ⟨b, o, rfl, hb, hc⟩ := hrd.byte hlen (k := ((i * 5 + 1) % (n : Int)).toNat) (by omega)
    have hv := Lib.hid (show atV zs i = num (zs[((i * 5 + 1) % (n : Int)).toNat]'(by omega)) by
      have := nth_of_lt zs ((i * 5 + 1) % (n : Int)).toNat (by omega)
      rw [← this, Int.toNat_of_nonneg hk0, ← hlen]; rfl)
    have hv0 := num_lo (zs[((i * 5 + 1) % (n : Int)).toNat]'(by omega))
    have hv1 := num_hi (zs[((i * 5 + 1) % (n : Int)).toNat]'(by omega))
    generalize num _ = v at *
    generalize ((i * 5 + 1) % (n : Int)) = k at *
    go_enter Try.func28, Try.ntmps28
    go_wp2
    go_ret
    exact ⟨by rw [hv.out]; simp, rfl⟩
theorem big_any (A : Option Addr) (n c : Nat) (w : World) (_hn : n ≤ 9223372036854775807) :
    Calls Try.prog 26 #[.slice A n c] w fun e w' => e = .returned (.bool (decide (1048576 < (n : Int)))) ∧ w = w' := by
  go_enter Try.func26, Try.ntmps26
  go_wp2
  go_ret
  exact ⟨rfl, rfl⟩
end Go.Proofs.Ytpnejmlbfadaaaa
