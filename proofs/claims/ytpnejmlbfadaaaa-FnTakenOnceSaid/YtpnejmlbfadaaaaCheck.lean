/- Contracts of the check, in the program and in the reference. No condition. -/
import Derived.Test.YtpnejmlbfadaaaaBase
namespace Go.Proofs.Ytpnejmlbfadaaaa
open Go.RowKit

theorem and_bit15 (y : Nat) (h : y < 65536) : y &&& 32768 = if 32768 ≤ y then 32768 else 0 := by
  have e : y.testBit 15 = decide (32768 ≤ y) := by
    rw [Nat.testBit_eq_decide_div_mod_eq]
    by_cases h1 : 32768 ≤ y
    · rw [decide_eq_true h1, decide_eq_true (by omega)]
    · rw [decide_eq_false h1, decide_eq_false (by omega)]
  apply Nat.eq_of_testBit_eq
  intro i
  rw [Nat.testBit_and, show (32768 : Nat) = 2 ^ 15 from rfl, Nat.testBit_two_pow]
  by_cases hi : 15 = i
  · subst hi
    rw [e]
    by_cases h1 : 32768 ≤ y
    · rw [if_pos h1, Nat.testBit_two_pow]
      simp [h1]
    · rw [if_neg h1]
      simp [h1]
  · by_cases h1 : 2 ^ 15 ≤ y
    · rw [if_pos h1, Nat.testBit_two_pow]
      simp [hi]
    · rw [if_neg h1]
      simp [hi]
theorem and_32768 (y : Nat) (h : y < 65536) : bits .and .i64 (y : Int) 32768 = if 32768 ≤ y then 32768 else 0 := by
  rw [show (32768 : Int) = ((32768 : Nat) : Int) from rfl, i64_and_nat y 32768 (by omega) (by omega), and_bit15 y h]
  split <;> rfl
theorem step_hi (y : Nat) (h1 : 32768 ≤ y) : bits .xor .i64 (2 * (y : Int) % 65536) 4129 = (crcStep y : Int) := by
  have e : 2 * (y : Int) % 65536 = ((2 * y % 65536 : Nat) : Int) := by omega
  rw [e, show (4129 : Int) = ((4129 : Nat) : Int) from rfl, i64_xor_nat _ _ (by omega) (by omega)]
  unfold crcStep
  rw [if_pos h1]
theorem and_65535 (n : Int) (h0 : 0 ≤ n) (h1 : n < 9223372036854775808) : bits .and .i64 n 65535 = n % 65536 := by
  obtain ⟨a, rfl⟩ := Int.eq_ofNat_of_zero_le h0
  rw [show (65535 : Int) = ((65535 : Nat) : Int) from rfl, i64_and_nat a 65535 (by omega) (by omega), show (65535 : Nat) = 2 ^ 16 - 1 from rfl, Nat.and_two_pow_sub_one_eq_mod]
  omega
theorem step_lo (y : Nat) (h1 : y < 32768) : (crcStep y : Int) = y * 2 := by
  unfold crcStep
  rw [if_neg (by omega)]
  omega
theorem xor_in (x : Nat) (b : UInt8) (h : x < 65536) : bits .xor .i64 (x : Int) (256 * num b) = ((x ^^^ (256 * b.toNat) : Nat) : Int) := by
  have e : 256 * num b = ((256 * b.toNat : Nat) : Int) := by unfold num; omega
  rw [e, i64_xor_nat _ _ (by omega) (by have := b.toNat_lt; omega)]

theorem checkOf_any (l : List UInt8) (w : World) (hl : l.length ≤ 9223372036854775807) :
    Calls Try.prog 84 #[.string ⟨l.toArray⟩] w fun e w' => e = .returned (.int .i64 (crcOf l)) ∧ w = w' := by
  go_enter Try.func84, Try.ntmps84
  go_wp2
  go_loop [3, 4] (fun s i => ∃ k : Nat, k ≤ l.length ∧ i = .int .i64 k ∧ s = .int .i64 (crcTo l k)) (fun _ i => l.length - (intOf i).toNat)
  case atStart => exact ⟨0, Nat.zero_le _, rfl, rfl⟩
  case round =>
    obtain ⟨k, hk, rfl, rfl⟩ := hrel
    by_cases hlt : k < l.length
    · have b0 := nth_lo l k
      have b1 := nth_hi l k
      have hx := xor_in (crcTo l k) l[k] (crcTo_lt l k)
      rw [← nth_of_lt l k hlt] at hx
      have hs := crcTo_succ l k hlt
      have hX := xor_byte_lt (crcTo_lt l k) l[k]
      unfold crcByte at hs
      generalize (crcTo l k ^^^ 256 * (l[k]).toNat) = X at hx hs hX
      have HS := Lib.hid hs
      clear hs
      go_wp2
      go_loop [3, 5] (fun s j => ∃ m : Nat, m ≤ 8 ∧ j = .int .i64 m ∧ s = .int .i64 (crcN m X)) (fun _ j => 8 - (intOf j).toNat)
      case atStart => exact ⟨0, Nat.zero_le _, rfl, rfl⟩
      case round =>
        obtain ⟨m, hm, rfl, rfl⟩ := hrel
        have hy := crcN_lt hX m
        have hy1 := hy
        generalize hY : crcN m X = y at hy
        have HY := Lib.hid hY
        clear hY hy1 hx
        by_cases hm8 : m < 8
        · have ha := and_32768 y hy
          by_cases hc : 32768 ≤ y
          · rw [if_pos hc] at ha
            have hst := step_hi y hc
            go_wp2
            go_round
            case rel => exact ⟨m + 1, by omega, by go_num, by show _ = Value.int .i64 (crcStep (crcN m X)); rw [HY.out]⟩
            case measure => simp [intOf]; omega
          · rw [if_neg hc] at ha
            have hst := Lib.hid (step_lo y (by omega))
            go_wp2
            go_round
            case rel => exact ⟨m + 1, by omega, by go_num, by show _ = Value.int .i64 (crcStep (crcN m X)); rw [HY.out, hst.out]⟩
            case measure => simp [intOf]; omega
        · obtain rfl : m = 8 := by omega
          go_wp2
          go_round
          case rel => exact ⟨k + 1, by omega, by go_num, by rw [HS.out, HY.out]⟩
          case measure => simp [intOf]; omega
    · obtain rfl : k = l.length := by omega
      go_wp2
      go_ret
      exact ⟨ret_int (by rw [crcTo_all]), rfl⟩

theorem sCheckOf_any (l : List UInt8) (w : World) (hl : l.length ≤ 9223372036854775807) :
    Calls Try.prog 83 #[.string ⟨l.toArray⟩] w fun e w' => e = .returned (.int .i64 (crcOf l)) ∧ w = w' := by
  go_enter Try.func83, Try.ntmps83
  go_wp2
  go_loop [3, 4] (fun s i => ∃ k : Nat, k ≤ l.length ∧ i = .int .i64 k ∧ s = .int .i64 (crcTo l k)) (fun _ i => l.length - (intOf i).toNat)
  case atStart => exact ⟨0, Nat.zero_le _, rfl, rfl⟩
  case round =>
    obtain ⟨k, hk, rfl, rfl⟩ := hrel
    by_cases hlt : k < l.length
    · have b0 := nth_lo l k
      have b1 := nth_hi l k
      have hx := xor_in (crcTo l k) l[k] (crcTo_lt l k)
      rw [← nth_of_lt l k hlt, Int.mul_comm] at hx
      have hs := crcTo_succ l k hlt
      have hX := xor_byte_lt (crcTo_lt l k) l[k]
      unfold crcByte at hs
      generalize (crcTo l k ^^^ 256 * (l[k]).toNat) = X at hx hs hX
      have HS := Lib.hid hs
      clear hs
      go_wp2
      go_loop [3, 5] (fun s j => ∃ m : Nat, m ≤ 8 ∧ j = .int .i64 m ∧ s = .int .i64 (crcN m X)) (fun _ j => 8 - (intOf j).toNat)
      case atStart => exact ⟨0, Nat.zero_le _, rfl, rfl⟩
      case round =>
        obtain ⟨m, hm, rfl, rfl⟩ := hrel
        have hy := crcN_lt hX m
        have hy1 := hy
        generalize hY : crcN m X = y at hy
        have HY := Lib.hid hY
        clear hY hy1 hx
        by_cases hm8 : m < 8
        · have ha := and_32768 y hy
          by_cases hc : 32768 ≤ y
          · rw [if_pos hc] at ha
            have hst := step_hi y hc
            have ha2 : bits .and .i64 ((y : Int) * 2) 65535 = 2 * (y : Int) % 65536 := by rw [and_65535 _ (by omega) (by omega), Int.mul_comm]
            go_wp2
            go_round
            case rel => exact ⟨m + 1, by omega, by go_num, by show _ = Value.int .i64 (crcStep (crcN m X)); rw [HY.out]⟩
            case measure => simp [intOf]; omega
          · rw [if_neg hc] at ha
            have hst := Lib.hid (step_lo y (by omega))
            go_wp2
            go_round
            case rel => exact ⟨m + 1, by omega, by go_num, by show _ = Value.int .i64 (crcStep (crcN m X)); rw [HY.out, hst.out]⟩
            case measure => simp [intOf]; omega
        · obtain rfl : m = 8 := by omega
          go_wp2
          go_round
          case rel => exact ⟨k + 1, by omega, by go_num, by rw [HS.out, HY.out]⟩
          case measure => simp [intOf]; omega
    · obtain rfl : k = l.length := by omega
      go_wp2
      go_ret
      exact ⟨ret_int (by rw [crcTo_all]), rfl⟩

end Go.Proofs.Ytpnejmlbfadaaaa
