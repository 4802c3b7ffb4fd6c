/- Contracts: marks on a sender of a file, and whether they are held. No condition. -/
import Derived.Test.YtimlddibaffjoaaFileOut
import Derived.Test.YtimlddibaffjoaaInts
import Derived.Test.YtimlddibaffjoaaAppend
namespace Go.Proofs.Ytimlddibaffjoaa
open Go.RowKit

theorem markFileOut_any (base : Nat) (f : Int) (d : List UInt8) (A : Option Addr) (n cp : Nat) (dn : Bool) (xs : List Value) (k : Int) (w : World) (hk0 : 0 ≤ k) (hk1 : k ≤ 2305843009213693952) (hm : n ≤ 2305843009213693952) (hown : w.ownsRow base 3 1 (.slice A n cp) n xs) :
    Calls Try.prog 54 #[.agg #[.int .i64 f, .string ⟨d.toArray⟩, .slice A n cp, .bool dn], .int .i64 k] w fun e w' => e = .returned (.int .i64 (k + n)) ∧ w'.ownsRow base 3 1 (.slice A n cp) n ((marksI k n).flatMap cI) ∧ w.grownBy w' (A.map (·.block)) := by
  go_enter Try.func54, Try.ntmps54
  go_wp2_with fail
  refine (markIntS_any base _ _ _ xs k _ hk0 hk1 hm (hown.alloc _)).mono ?_
  rintro e w1 ⟨rfl, hown1, hg1⟩
  go_wp2
  go_ret
  exact ⟨rfl, hown1, grownBy_of_alloc hg1⟩
theorem heldFileOut_any (f : Int) (d : List UInt8) (A : Option Addr) (n cp : Nat) (dn : Bool) (k : Int) (w : World) (hk0 : 0 ≤ k) (hk1 : k ≤ 2305843009213693952) (hm : n ≤ 2305843009213693952) (hr : Rd w 1 A n ((marksI k n).flatMap cI)) :
    Calls Try.prog 55 #[.agg #[.int .i64 f, .string ⟨d.toArray⟩, .slice A n cp, .bool dn], .int .i64 k] w fun e w' => e = .returned (.int .i64 (k + n)) ∧ Below w.heap.size w w' := by
  go_enter Try.func55, Try.ntmps55
  go_wp2_with fail
  refine (heldIntS_any _ _ _ k _ hk0 hk1 hm (hr.alloc _)).mono ?_
  rintro e w1 ⟨rfl, rfl⟩
  go_wp2
  go_ret
  exact ⟨rfl, (Below.refl _ _).alloc (Nat.le_refl _) _⟩
end Go.Proofs.Ytimlddibaffjoaa
