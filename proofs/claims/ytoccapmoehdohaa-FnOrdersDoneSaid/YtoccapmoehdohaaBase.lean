/- Contracts of the smallest functions: a range test, in the program and in the reference; words and their values; the check. No condition. -/
import Derived.Test.YtoccapmoehdohaaRows
import Derived.Test.YtoccapmoehdohaaPlain
import Derived.Test.YtoccapmoehdohaaKit
import Derived.WalkKit
import Derived.WalkSpells
import Derived.WalkLawsBesides
import Derived.BigQuiet
import Derived.Deep.QuietTactic
import Derived.Lib.Hide
namespace Go.Proofs.Ytoccapmoehdohaa
open Go.RowKit
def inB (n lo hi : Int) : Bool:=decide (lo ≤ n) && decide (n ≤ hi)
theorem Cw {n lo hi : Int} (h : inB n lo hi = true) : lo ≤ n ∧ n ≤ hi:=by simpa [inB] using h
theorem Es {n lo hi : Int} (h : lo ≤ n) (h' : n ≤ hi) : inB n lo hi = true:=by simp [inB,h,h']
theorem Bu (n lo hi : Int) (w : World) :
  Calls Try.prog 43 #[.int .i64 n,.int .i64 lo,.int .i64 hi] w fun e w'=>e = .returned (.bool (inB n lo hi)) ∧ w = w':=by
 go_enter Try.func43,Try.ntmps43
 go_wp2
 ·have h : lo ≤ n:=by assumption
  go_ret
  exact ⟨by simp [inB,h],rfl⟩
 ·have h : n < lo:=by assumption
  go_ret
  exact ⟨by simp [inB]; omega,rfl⟩
theorem putWord2 (n : Int) (w : World) (h0 : 0 ≤ n) (h1 : n ≤ 65535) :
  Calls Try.prog 90 #[.int .i64 n,.int .i64 2] w fun e w'=>e = .returned (.string ⟨(pw2 n).toArray⟩) ∧ Below w.heap.size w w':=by
 have hmk : ∀ w,(Instr.makeSlice 22 (.int .i64 2) (.int .i64 2)).run Try.prog w = .ok (.slice (some ⟨w.heap.size,0,none⟩) 2 2) (w.alloc (.cells #[.int .u8 0,.int .u8 0] 5)):=fun _=>by kernel_rfl
 have hcv : ∀ (w : World) (a b : Int),(convert 22 9 (.slice (some ⟨w.heap.size,0,none⟩) 2 2)).run Try.prog (w.alloc (.cells #[.int .u8 a,.int .u8 b] 5)) = .ok (.string ⟨#[UInt8.ofNat a.toNat,UInt8.ofNat b.toNat]⟩) (w.alloc (.cells #[.int .u8 a,.int .u8 b] 5)) :=
  fun w a b=>run_conv_new Try.prog w _ _ _ Try.underlying22 Try.underlying5 Try.underlying9 [a,b] 2
 have hq : (n / 65536 != 0) = false:=by simp; omega
 have hd : decide (n < 0) = false:=by simp; omega
 have b0 : bits .and .i64 n 255 = n % 256:=and_255 _ (by omega) (by omega);have b1 : bits .and .i64 (n / 256) 255 = n / 256:=by rw [and_255 _ (by omega) (by omega)]; omega
 have e1 : n / 256 % 256 = n / 256:=by omega
 go_enter Try.func90,Try.ntmps90
 go_wp2
 refine wp_loop_rounds 3 ?_;rw [rounds_succ]
 go_wp2
 rw [rounds_succ]
 go_wp2
 rw [rounds_succ]
 go_wp2
 go_ret
 exact ⟨rfl,(Below.refl _ _).alloc (Nat.le_refl _) _⟩
theorem infoI64 : (Try.prog.info? 3).map (fun i=>(i.zero,i.size,i.bytes)) = some (some (.int .i64 0),1,8):=by kernel_rfl
end Go.Proofs.Ytoccapmoehdohaa
