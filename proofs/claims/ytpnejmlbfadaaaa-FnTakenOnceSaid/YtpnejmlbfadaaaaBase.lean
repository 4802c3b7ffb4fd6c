/- Contracts of the smallest functions: a range test, in the program and in the reference; words and their values; the check. No condition. -/
import Derived.Test.YtpnejmlbfadaaaaRows
import Derived.Test.YtpnejmlbfadaaaaPlain
import Derived.Test.YtpnejmlbfadaaaaKit
import Derived.WalkKit
import Derived.WalkSpells
import Derived.WalkLawsBesides
import Derived.BigQuiet
import Derived.Deep.QuietTactic
import Derived.Lib.Hide
namespace Go.Proofs.Ytpnejmlbfadaaaa
open Go.RowKit

/-- A range test, as one Boolean. -/
def inB (n lo hi : Int) : Bool := decide (lo ≤ n) && decide (n ≤ hi)
theorem inB_true {n lo hi : Int} (h : inB n lo hi = true) : lo ≤ n ∧ n ≤ hi := by simpa [inB] using h
theorem inB_mk {n lo hi : Int} (h : lo ≤ n) (h' : n ≤ hi) : inB n lo hi = true := by simp [inB, h, h']
theorem inB_false {n lo hi : Int} (h : inB n lo hi = false) : n < lo ∨ hi < n := by
  simp only [inB, Bool.and_eq_false_iff, decide_eq_false_iff_not] at h
  omega

theorem between_any (n lo hi : Int) (w : World) :
    Calls Try.prog 62 #[.int .i64 n, .int .i64 lo, .int .i64 hi] w fun e w' => e = .returned (.bool (inB n lo hi)) ∧ w = w' := by
  go_enter Try.func62, Try.ntmps62
  go_wp2
  · have h : lo ≤ n := by assumption
    go_ret
    exact ⟨by simp [inB, h], rfl⟩
  · have h : n < lo := by assumption
    go_ret
    exact ⟨by simp [inB]; omega, rfl⟩

theorem l01In_any (n lo hi : Int) (w : World) :
    Calls Try.prog 61 #[.int .i64 n, .int .i64 lo, .int .i64 hi] w fun e w' => e = .returned (.bool (inB n lo hi)) ∧ w = w' := by
  go_enter Try.func61, Try.ntmps61
  go_wp2
  · have h : lo ≤ n := by assumption
    go_ret
    exact ⟨by simp [inB, h], rfl⟩
  · have h : n < lo := by assumption
    go_ret
    exact ⟨by simp [inB]; omega, rfl⟩


theorem putWord1 (n : Int) (w : World) (h0 : 0 ≤ n) (h1 : n ≤ 255) :
    Calls Try.prog 68 #[.int .i64 n, .int .i64 1] w fun e w' => e = .returned (.string ⟨(pw1 n).toArray⟩) ∧ Below w.heap.size w w' := by
  have hmk : ∀ w, (Instr.makeSlice 35 (.int .i64 1) (.int .i64 1)).run Try.prog w = .ok (.slice (some ⟨w.heap.size, 0, none⟩) 1 1) (w.alloc (.cells #[.int .u8 0] 5)) := fun _ => by kernel_rfl
  have hcv : ∀ (w : World) (a : Int), (convert 35 9 (.slice (some ⟨w.heap.size, 0, none⟩) 1 1)).run Try.prog (w.alloc (.cells #[.int .u8 a] 5)) = .ok (.string ⟨#[UInt8.ofNat a.toNat]⟩) (w.alloc (.cells #[.int .u8 a] 5)) :=
    fun w a => run_conv_new Try.prog w _ _ _ Try.underlying35 Try.underlying5 Try.underlying9 [a] 1
  have hq : (n / 256 != 0) = false := by simp; omega
  have hd : decide (n < 0) = false := by simp; omega
  have b0 : bits .and .i64 n 255 = n := by rw [and_255 _ (by omega) (by omega)]; omega
  have e0 : n % 256 = n := by omega
  go_enter Try.func68, Try.ntmps68
  go_wp2
  refine wp_loop_rounds 2 ?_
  rw [rounds_succ]
  go_wp2
  rw [rounds_succ]
  go_wp2
  go_ret
  exact ⟨rfl, (Below.refl _ _).alloc (Nat.le_refl _) _⟩

theorem putWord2 (n : Int) (w : World) (h0 : 0 ≤ n) (h1 : n ≤ 65535) :
    Calls Try.prog 68 #[.int .i64 n, .int .i64 2] w fun e w' => e = .returned (.string ⟨(pw2 n).toArray⟩) ∧ Below w.heap.size w w' := by
  have hmk : ∀ w, (Instr.makeSlice 35 (.int .i64 2) (.int .i64 2)).run Try.prog w = .ok (.slice (some ⟨w.heap.size, 0, none⟩) 2 2) (w.alloc (.cells #[.int .u8 0, .int .u8 0] 5)) := fun _ => by kernel_rfl
  have hcv : ∀ (w : World) (a b : Int), (convert 35 9 (.slice (some ⟨w.heap.size, 0, none⟩) 2 2)).run Try.prog (w.alloc (.cells #[.int .u8 a, .int .u8 b] 5)) = .ok (.string ⟨#[UInt8.ofNat a.toNat, UInt8.ofNat b.toNat]⟩) (w.alloc (.cells #[.int .u8 a, .int .u8 b] 5)) :=
    fun w a b => run_conv_new Try.prog w _ _ _ Try.underlying35 Try.underlying5 Try.underlying9 [a, b] 2
  have hq : (n / 65536 != 0) = false := by simp; omega
  have hd : decide (n < 0) = false := by simp; omega
  have b0 : bits .and .i64 n 255 = n % 256 := and_255 _ (by omega) (by omega)
  have b1 : bits .and .i64 (n / 256) 255 = n / 256 := by rw [and_255 _ (by omega) (by omega)]; omega
  have e1 : n / 256 % 256 = n / 256 := by omega
  go_enter Try.func68, Try.ntmps68
  go_wp2
  refine wp_loop_rounds 3 ?_
  rw [rounds_succ]
  go_wp2
  rw [rounds_succ]
  go_wp2
  rw [rounds_succ]
  go_wp2
  go_ret
  exact ⟨rfl, (Below.refl _ _).alloc (Nat.le_refl _) _⟩

theorem putWord3 (n : Int) (w : World) (h0 : 0 ≤ n) (h1 : n ≤ 16777215) :
    Calls Try.prog 68 #[.int .i64 n, .int .i64 3] w fun e w' => e = .returned (.string ⟨(pw3 n).toArray⟩) ∧ Below w.heap.size w w' := by
  have hmk : ∀ w, (Instr.makeSlice 35 (.int .i64 3) (.int .i64 3)).run Try.prog w = .ok (.slice (some ⟨w.heap.size, 0, none⟩) 3 3) (w.alloc (.cells #[.int .u8 0, .int .u8 0, .int .u8 0] 5)) := fun _ => by kernel_rfl
  have hcv : ∀ (w : World) (a b c : Int), (convert 35 9 (.slice (some ⟨w.heap.size, 0, none⟩) 3 3)).run Try.prog (w.alloc (.cells #[.int .u8 a, .int .u8 b, .int .u8 c] 5)) = .ok (.string ⟨#[UInt8.ofNat a.toNat, UInt8.ofNat b.toNat, UInt8.ofNat c.toNat]⟩) (w.alloc (.cells #[.int .u8 a, .int .u8 b, .int .u8 c] 5)) :=
    fun w a b c => run_conv_new Try.prog w _ _ _ Try.underlying35 Try.underlying5 Try.underlying9 [a, b, c] 3
  have hq : (n / 16777216 != 0) = false := by simp; omega
  have hd : decide (n < 0) = false := by simp; omega
  have b0 : bits .and .i64 n 255 = n % 256 := and_255 _ (by omega) (by omega)
  have b1 : bits .and .i64 (n / 256) 255 = n / 256 % 256 := and_255 _ (by omega) (by omega)
  have b2 : bits .and .i64 (n / 256 / 256) 255 = n / 65536 := by rw [and_255 _ (by omega) (by omega)]; omega
  have e2 : n / 65536 % 256 = n / 65536 := by omega
  go_enter Try.func68, Try.ntmps68
  go_wp2
  refine wp_loop_rounds 4 ?_
  rw [rounds_succ]
  go_wp2
  rw [rounds_succ]
  go_wp2
  rw [rounds_succ]
  go_wp2
  rw [rounds_succ]
  go_wp2
  go_ret
  exact ⟨rfl, (Below.refl _ _).alloc (Nat.le_refl _) _⟩

theorem infoI64 : (Try.prog.info? 3).map (fun i => (i.zero, i.size, i.bytes)) = some (some (.int .i64 0), 1, 8) := by kernel_rfl
theorem infoU8 : (Try.prog.info? 5).map (fun i => (i.zero, i.size, i.bytes)) = some (some (.int .u8 0), 1, 1) := by kernel_rfl

theorem sPutWord1 (n : Int) (w : World) (h0 : 0 ≤ n) (h1 : n ≤ 255) :
    Calls Try.prog 66 #[.int .i64 n, .int .i64 1] w fun e w' => e = .returned (.string ⟨(pw1 n).toArray⟩) ∧ Below w.heap.size w w' := by
  have hq : (n / 256 != 0) = false := by simp; omega
  have hd : decide (n < 0) = false := by simp; omega
  have hin : inB 1 1 4 = true := rfl
  have e0 : n % 256 = n := by omega
  have hown0 : (w.alloc (.cells #[] 5)).ownsRow w.heap.size 5 1 (.slice (some ⟨w.heap.size, 0, none⟩) 0 0) 0 ([].map (Value.int .u8)) := World.ownsRow_lit w #[] 0 (Nat.le_refl _) (by decide) rfl
  go_enter Try.func66, Try.ntmps66
  go_wp2_with (go_at_call 61; refine (l01In_any _ _ _ _).mono ?_; rintro e w' ⟨rfl, rfl⟩)
  refine wp_loop_rounds 2 ?_
  rw [rounds_succ]
  go_wp2_with (at_builtin; refine wpList_append1 _ rfl (.tmp 28) (.tmp 34) 35 rfl 5 (.int .u8 0) 1 1 Try.underlying35 infoU8 rfl (by decide) w.heap.size _ _ _ _ rfl hown0 [.int .u8 n] _ rfl (by simp) rfl (by simp [Value.oneCell']) (by decide) (by simp) ?_; intro g1 c1 w1 hown1 _ hb1)
  have hcv := run_conv_own Try.prog w1 _ _ _ Try.underlying35 Try.underlying5 Try.underlying9 [n] hown1
  rw [rounds_succ]
  go_wp2
  go_ret
  exact ⟨rfl, ((Below.refl _ _).alloc (Nat.le_refl _) _).trans hb1⟩

theorem sPutWord2 (n : Int) (w : World) (h0 : 0 ≤ n) (h1 : n ≤ 65535) :
    Calls Try.prog 66 #[.int .i64 n, .int .i64 2] w fun e w' => e = .returned (.string ⟨(pw2 n).toArray⟩) ∧ Below w.heap.size w w' := by
  have hq : (n / 65536 != 0) = false := by simp; omega
  have hd : decide (n < 0) = false := by simp; omega
  have hin : inB 2 1 4 = true := rfl
  have e0 : n / 256 % 256 = n / 256 := by omega
  have hown0 : (w.alloc (.cells #[] 5)).ownsRow w.heap.size 5 1 (.slice (some ⟨w.heap.size, 0, none⟩) 0 0) 0 ([].map (Value.int .u8)) := World.ownsRow_lit w #[] 0 (Nat.le_refl _) (by decide) rfl
  go_enter Try.func66, Try.ntmps66
  go_wp2_with (go_at_call 61; refine (l01In_any _ _ _ _).mono ?_; rintro e w' ⟨rfl, rfl⟩)
  refine wp_loop_rounds 3 ?_
  rw [rounds_succ]
  go_wp2_with (at_builtin; refine wpList_append1 _ rfl (.tmp 28) (.tmp 34) 35 rfl 5 (.int .u8 0) 1 1 Try.underlying35 infoU8 rfl (by decide) w.heap.size _ _ _ _ rfl hown0 [.int .u8 (n / 256)] _ rfl (by simp) rfl (by simp [Value.oneCell']) (by decide) (by simp) ?_; intro g1 c1 w1 hown1 _ hb1)
  have hz1 : w.heap.size ≤ w1.heap.size := by have := hb1.size; simp at this; omega
  rw [rounds_succ]
  go_wp2_with (at_builtin; refine wpList_append1 _ rfl (.tmp 28) (.tmp 34) 35 rfl 5 (.int .u8 0) 1 1 Try.underlying35 infoU8 rfl (by decide) w.heap.size _ _ _ _ rfl hown1 [.int .u8 (n % 256)] _ rfl (by simp) rfl (by simp [Value.oneCell']) (by decide) hz1 ?_; intro g2 c2 w2 hown2 _ hb2)
  have hz2 : w.heap.size ≤ w2.heap.size := by have := hb2.size; omega
  have hcv := run_conv_own Try.prog w2 _ _ _ Try.underlying35 Try.underlying5 Try.underlying9 [n / 256, n % 256] hown2
  rw [rounds_succ]
  go_wp2
  go_ret
  exact ⟨rfl, (((Below.refl _ _).alloc (Nat.le_refl _) _).trans hb1).trans hb2⟩

theorem sPutWord3 (n : Int) (w : World) (h0 : 0 ≤ n) (h1 : n ≤ 16777215) :
    Calls Try.prog 66 #[.int .i64 n, .int .i64 3] w fun e w' => e = .returned (.string ⟨(pw3 n).toArray⟩) ∧ Below w.heap.size w w' := by
  have hq : (n / 16777216 != 0) = false := by simp; omega
  have hd : decide (n < 0) = false := by simp; omega
  have hin : inB 3 1 4 = true := rfl
  have e0 : n / 65536 % 256 = n / 65536 := by omega
  have hown0 : (w.alloc (.cells #[] 5)).ownsRow w.heap.size 5 1 (.slice (some ⟨w.heap.size, 0, none⟩) 0 0) 0 ([].map (Value.int .u8)) := World.ownsRow_lit w #[] 0 (Nat.le_refl _) (by decide) rfl
  go_enter Try.func66, Try.ntmps66
  go_wp2_with (go_at_call 61; refine (l01In_any _ _ _ _).mono ?_; rintro e w' ⟨rfl, rfl⟩)
  refine wp_loop_rounds 4 ?_
  rw [rounds_succ]
  go_wp2_with (at_builtin; refine wpList_append1 _ rfl (.tmp 28) (.tmp 34) 35 rfl 5 (.int .u8 0) 1 1 Try.underlying35 infoU8 rfl (by decide) w.heap.size _ _ _ _ rfl hown0 [.int .u8 (n / 65536)] _ rfl (by simp) rfl (by simp [Value.oneCell']) (by decide) (by simp) ?_; intro g1 c1 w1 hown1 _ hb1)
  have hz1 : w.heap.size ≤ w1.heap.size := by have := hb1.size; simp at this; omega
  rw [rounds_succ]
  go_wp2_with (at_builtin; refine wpList_append1 _ rfl (.tmp 28) (.tmp 34) 35 rfl 5 (.int .u8 0) 1 1 Try.underlying35 infoU8 rfl (by decide) w.heap.size _ _ _ _ rfl hown1 [.int .u8 (n / 256 % 256)] _ rfl (by simp) rfl (by simp [Value.oneCell']) (by decide) hz1 ?_; intro g2 c2 w2 hown2 _ hb2)
  have hz2 : w.heap.size ≤ w2.heap.size := by have := hb2.size; omega
  rw [rounds_succ]
  go_wp2_with (at_builtin; refine wpList_append1 _ rfl (.tmp 28) (.tmp 34) 35 rfl 5 (.int .u8 0) 1 1 Try.underlying35 infoU8 rfl (by decide) w.heap.size _ _ _ _ rfl hown2 [.int .u8 (n % 256)] _ rfl (by simp) rfl (by simp [Value.oneCell']) (by decide) hz2 ?_; intro g3 c3 w3 hown3 _ hb3)
  have hz3 : w.heap.size ≤ w3.heap.size := by have := hb3.size; omega
  have hcv := run_conv_own Try.prog w3 _ _ _ Try.underlying35 Try.underlying5 Try.underlying9 [n / 65536, n / 256 % 256, n % 256] hown3
  rw [rounds_succ]
  go_wp2
  go_ret
  exact ⟨rfl, ((((Below.refl _ _).alloc (Nat.le_refl _) _).trans hb1).trans hb2).trans hb3⟩

theorem putWord_any (n size : Int) (w : World) (h0 : 0 ≤ n) (h : (size = 1 ∧ n ≤ 255) ∨ (size = 2 ∧ n ≤ 65535) ∨ (size = 3 ∧ n ≤ 16777215)) :
    Calls Try.prog 68 #[.int .i64 n, .int .i64 size] w fun e w' => e = .returned (.string ⟨(pwS n size).toArray⟩) ∧ Below w.heap.size w w' := by
  rcases h with ⟨rfl, h⟩ | ⟨rfl, h⟩ | ⟨rfl, h⟩
  · exact putWord1 n w h0 h
  · exact putWord2 n w h0 h
  · exact putWord3 n w h0 h

theorem sPutWord_any (n size : Int) (w : World) (h0 : 0 ≤ n) (h : (size = 1 ∧ n ≤ 255) ∨ (size = 2 ∧ n ≤ 65535) ∨ (size = 3 ∧ n ≤ 16777215)) :
    Calls Try.prog 66 #[.int .i64 n, .int .i64 size] w fun e w' => e = .returned (.string ⟨(pwS n size).toArray⟩) ∧ Below w.heap.size w w' := by
  rcases h with ⟨rfl, h⟩ | ⟨rfl, h⟩ | ⟨rfl, h⟩
  · exact sPutWord1 n w h0 h
  · exact sPutWord2 n w h0 h
  · exact sPutWord3 n w h0 h

end Go.Proofs.Ytpnejmlbfadaaaa
