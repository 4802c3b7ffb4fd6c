/- Contracts of the values of words and of the check. No condition. -/
import Derived.Test.YtmcgmiapbdoocaaBase
namespace Go.Proofs.Ytmcgmiapbdoocaa
open Go.RowKit

theorem getWord1 (l : List UInt8) (i : Int) (w : World) (h0 : 0 ≤ i) (hi : i + 1 ≤ l.length) (hl : l.length ≤ 9223372036854775807) :
    Calls Try.prog 48 #[.string ⟨l.toArray⟩, .int .i64 i, .int .i64 1] w fun e w' => e = .returned (.tuple #[.int .i64 (nth l i), .bool true]) ∧ w = w' := by
  obtain ⟨i, rfl⟩ := Int.eq_ofNat_of_zero_le h0
  have b0 := nth_lo l i
  have c0 := nth_hi l i
  go_enter Try.func48, Try.ntmps48
  go_wp2
  refine wp_loop_rounds 2 ?_
  rw [rounds_succ]
  go_wp2
  rw [rounds_succ]
  go_wp2
  go_ret2
  exact ⟨rfl, rfl⟩

theorem getWord2 (l : List UInt8) (i : Int) (w : World) (h0 : 0 ≤ i) (hi : i + 2 ≤ l.length) (hl : l.length ≤ 9223372036854775807) :
    Calls Try.prog 48 #[.string ⟨l.toArray⟩, .int .i64 i, .int .i64 2] w fun e w' => e = .returned (.tuple #[.int .i64 (nth l i * 256 + nth l (i + 1)), .bool true]) ∧ w = w' := by
  obtain ⟨i, rfl⟩ := Int.eq_ofNat_of_zero_le h0
  have b0 := nth_lo l i
  have c0 := nth_hi l i
  have b1 := nth_lo l (i + 1)
  have c1 := nth_hi l (i + 1)
  go_enter Try.func48, Try.ntmps48
  go_wp2
  refine wp_loop_rounds 3 ?_
  rw [rounds_succ]
  go_wp2
  rw [rounds_succ]
  go_wp2
  rw [rounds_succ]
  go_wp2
  go_ret2
  exact ⟨rfl, rfl⟩

theorem getWord3 (l : List UInt8) (i : Int) (w : World) (h0 : 0 ≤ i) (hi : i + 3 ≤ l.length) (hl : l.length ≤ 9223372036854775807) :
    Calls Try.prog 48 #[.string ⟨l.toArray⟩, .int .i64 i, .int .i64 3] w fun e w' => e = .returned (.tuple #[.int .i64 ((nth l i * 256 + nth l (i + 1)) * 256 + nth l (i + 2)), .bool true]) ∧ w = w' := by
  obtain ⟨i, rfl⟩ := Int.eq_ofNat_of_zero_le h0
  have b0 := nth_lo l i
  have c0 := nth_hi l i
  have b1 := nth_lo l (i + 1)
  have c1 := nth_hi l (i + 1)
  have b2 := nth_lo l (i + 2)
  have c2 := nth_hi l (i + 2)
  go_enter Try.func48, Try.ntmps48
  go_wp2
  refine wp_loop_rounds 4 ?_
  rw [rounds_succ]
  go_wp2
  rw [rounds_succ]
  go_wp2
  rw [rounds_succ]
  go_wp2
  rw [rounds_succ]
  go_wp2
  go_ret2
  exact ⟨rfl, rfl⟩
end Go.Proofs.Ytmcgmiapbdoocaa
