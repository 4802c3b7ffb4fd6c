/- A mark's text. No condition. -/
import Derived.Test.YtpnejmlbfadaaaaBase
import Derived.Test.YtpnejmlbfadaaaaOpen
namespace Go.Proofs.Ytpnejmlbfadaaaa
open Go.RowKit

/-! ### a mark's text -/
def digs : Nat → Nat → List UInt8 → List UInt8
  | 0, _, acc => acc
  | f + 1, k, acc => if k = 0 then acc else digs f (k / 10) (by1 (48 + ((k % 10 : Nat) : Int)) :: acc)
/-- The letter m and the digits of k. -/
def markT (k : Int) : List UInt8 := 109 :: digs (k.toNat + 1) k.toNat []
theorem digs_step {f k : Nat} {acc : List UInt8} (hk : ¬ k = 0) : digs (f + 1) k acc = digs f (k / 10) (by1 (48 + ((k % 10 : Nat) : Int)) :: acc) := if_neg hk
theorem digs_zero (f : Nat) (acc : List UInt8) : digs f 0 acc = acc := by cases f <;> rfl

theorem by1_dig : ∀ m : Nat, m < 10 → by1 (48 + (m : Int)) = 48 + UInt8.ofNat m := by decide

theorem markText_any (k : Int) (w : World) (hk0 : 1 ≤ k) (hk1 : k ≤ 4611686018427387904) :
    Calls Try.prog 82 #[.int .i64 k] w fun e w' => e = .returned (.string ⟨(markT k).toArray⟩) ∧ Below w.heap.size w w' := by
  have hcv : ∀ (w : World) (a : Int), (convert 35 9 (.slice (some ⟨w.heap.size, 0, none⟩) 1 1)).run Try.prog (w.alloc (.cells #[.int .u8 a] 5)) = .ok (.string ⟨#[UInt8.ofNat a.toNat]⟩) (w.alloc (.cells #[.int .u8 a] 5)) :=
    fun w a => run_conv_new Try.prog w _ _ _ Try.underlying35 Try.underlying5 Try.underlying9 [a] 1
  obtain ⟨K, rfl⟩ := Int.eq_ofNat_of_zero_le (show 0 ≤ k by omega)
  have hT : Hid (markT K = 109 :: digs (K + 1) K []) := Lib.hid (by unfold markT; rw [Int.toNat_natCast])
  go_enter Try.func82, Try.ntmps82
  go_wp2
  go_loopw [0, 3] (fun q s wr => ∃ (j f : Nat) (acc : List UInt8), j ≤ f ∧ j + acc.length ≤ K ∧ q = .int .i64 j ∧ s = .string ⟨acc.toArray⟩ ∧ Hid (digs (f + 1) j acc = digs (K + 1) K []) ∧ Below w.heap.size w wr) (fun q _ _ => (intOf q).toNat)
  case atStart => exact ⟨K, K, [], Nat.le_refl _, by simp, rfl, rfl, rfl, Below.refl _ _⟩
  case round =>
    obtain ⟨j, f, acc, hjf, hja, rfl, rfl, hd, hB⟩ := hrel
    by_cases hj : j = 0
    · subst hj
      have hacc : Hid (acc = digs (K + 1) K []) := Lib.hid (by rw [← hd.out, digs_zero])
      go_wp2
      go_ret
      exact ⟨ret_app (by rw [hT.out, hacc.out]; rfl), hB⟩
    · have hj1 : 0 < (j : Int) := by omega
      have hnext : Hid (digs (f + 1) j acc = digs f (j / 10) (by1 (48 + ((j % 10 : Nat) : Int)) :: acc)) := Lib.hid (digs_step hj)
      have hm : (48 + (j : Int) % 10) % 256 = 48 + (j : Int) % 10 := by omega
      obtain ⟨f', rfl⟩ : ∃ f', f = f' + 1 := ⟨f - 1, by omega⟩
      go_wp2
      go_roundw
      case rel => exact ⟨j / 10, f', by1 (48 + ((j % 10 : Nat) : Int)) :: acc, by omega, by simp; omega, by go_num, str_app (by rw [by1_dig _ (by omega)]; rfl), by rw [← hnext.out]; exact hd, hB.alloc hB.size _⟩
      case measure => simp [intOf]; omega

end Go.Proofs.Ytpnejmlbfadaaaa
