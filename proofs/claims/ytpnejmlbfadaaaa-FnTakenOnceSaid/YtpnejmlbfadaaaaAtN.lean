/- A byte of the code at a place that is a number. No condition. -/
import Derived.Test.YtpnejmlbfadaaaaAt
namespace Go.Proofs.Ytpnejmlbfadaaaa
open Go.RowKit

def atN (zs : List UInt8) (k : Nat) : Nat := (atV zs ((k : Nat) : Int)).toNat
theorem atN_le (zs : List UInt8) (k : Nat) : atN zs k ≤ 255 := by
  have := atV_hi zs k
  have := atV_lo zs k
  unfold atN
  omega
theorem at_nat {w : World} {A : Option Addr} {n c : Nat} {zs : List UInt8} (hlen : zs.length = n) (hnc : n ≤ c) (hcm : c ≤ maxLen) (hrd : Rd w 1 A n (zs.flatMap cB)) (k : Nat) (hk : k ≤ 1000000000) :
    Calls Try.prog 28 #[.slice A n c, .int .i64 ((k : Nat) : Int)] w fun e w' => e = .returned (.int .i64 ((atN zs k : Nat) : Int)) ∧ w = w' :=
  (at_any A n c zs hlen hnc hcm hrd k (by omega) (by omega)).mono fun _ _ ⟨he, hw⟩ => ⟨by
    have := atV_lo zs k
    rw [he]
    unfold atN
    rw [Int.toNat_of_nonneg this], hw⟩
end Go.Proofs.Ytpnejmlbfadaaaa
