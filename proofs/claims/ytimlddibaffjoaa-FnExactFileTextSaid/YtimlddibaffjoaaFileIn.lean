/- Contracts on receivers of files: a new one, equality of equal ones, marks and whether they are held, a copy, a size taken off, validity. No condition. -/
import Derived.Test.YtimlddibaffjoaaBase
import Derived.Test.YtimlddibaffjoaaOpen
import Derived.Test.YtimlddibaffjoaaStrs
namespace Go.Proofs.Ytimlddibaffjoaa
open Go.RowKit

def noParts : Array Value := #[.string ⟨#[]⟩, .string ⟨#[]⟩, .string ⟨#[]⟩, .string ⟨#[]⟩, .string ⟨#[]⟩, .string ⟨#[]⟩, .string ⟨#[]⟩, .string ⟨#[]⟩, .string ⟨#[]⟩, .string ⟨#[]⟩, .string ⟨#[]⟩, .string ⟨#[]⟩, .string ⟨#[]⟩, .string ⟨#[]⟩, .string ⟨#[]⟩, .string ⟨#[]⟩, .string ⟨#[]⟩, .string ⟨#[]⟩, .string ⟨#[]⟩, .string ⟨#[]⟩, .string ⟨#[]⟩, .string ⟨#[]⟩, .string ⟨#[]⟩, .string ⟨#[]⟩, .string ⟨#[]⟩]
theorem noParts_list : noParts.toList = (List.replicate 25 ([] : List UInt8)).flatMap cS := rfl

theorem newFileIn_any (f : Int) (w : World) :
    Calls Try.prog 31 #[.int .i64 f] w fun e w' => ∃ g, e = .returned (.agg #[.int .i64 f, .int .i64 (-1), .int .i64 (-1), .slice (some ⟨g, 0, none⟩) 25 25]) ∧ w'.ownsRow w.heap.size 9 1 (.slice (some ⟨g, 0, none⟩) 25 25) 25 ((List.replicate 25 ([] : List UInt8)).flatMap cS) ∧ Below w.heap.size w w' := by
  have hmk : ∀ w, (Instr.makeSlice 35 (.int .i64 25) (.int .i64 25)).run Try.prog w = .ok (.slice (some ⟨w.heap.size, 0, none⟩) 25 25) (w.alloc (.cells noParts 9)) := fun _ => by kernel_rfl
  have hown : ∀ X : Obj, ((w.alloc X).alloc (.cells noParts 9)).ownsRow w.heap.size 9 1 (.slice (some ⟨w.heap.size + 1, 0, none⟩) 25 25) 25 ((List.replicate 25 ([] : List UInt8)).flatMap cS) := fun X => by
    have h := World.ownsRow_lit (base := w.heap.size) (e := 9) (size := 1) (w.alloc X) noParts 25 (by simp) (by decide) rfl
    rw [noParts_list] at h
    simpa using h
  have hown' := Lib.hid hown
  clear hown
  go_enter Try.func31, Try.ntmps31
  go_wp2
  refine bodyPost_ret (v := .agg #[.int .i64 f, .int .i64 (-1), .int .i64 (-1), .slice (some ⟨w.heap.size + 1, 0, none⟩) 25 25]) (by simp [results, Try.results31, go_sem]) rfl ⟨_, rfl, hown'.out _, ?_⟩
  exact ((Below.refl _ _).alloc (Nat.le_refl _) _).alloc (by simp) _

theorem sNewFileIn_any (f : Int) (w : World) :
    Calls Try.prog 30 #[.int .i64 f] w fun e w' => ∃ g, e = .returned (.agg #[.int .i64 f, .int .i64 (-1), .int .i64 (-1), .slice (some ⟨g, 0, none⟩) 25 25]) ∧ w'.ownsRow w.heap.size 9 1 (.slice (some ⟨g, 0, none⟩) 25 25) 25 ((List.replicate 25 ([] : List UInt8)).flatMap cS) ∧ Below w.heap.size w w' := by
  have hmk : ∀ w, (Instr.makeSlice 35 (.int .i64 25) (.int .i64 25)).run Try.prog w = .ok (.slice (some ⟨w.heap.size, 0, none⟩) 25 25) (w.alloc (.cells noParts 9)) := fun _ => by kernel_rfl
  have hown : ∀ X : Obj, ((w.alloc X).alloc (.cells noParts 9)).ownsRow w.heap.size 9 1 (.slice (some ⟨w.heap.size + 1, 0, none⟩) 25 25) 25 ((List.replicate 25 ([] : List UInt8)).flatMap cS) := fun X => by
    have h := World.ownsRow_lit (base := w.heap.size) (e := 9) (size := 1) (w.alloc X) noParts 25 (by simp) (by decide) rfl
    rw [noParts_list] at h
    simpa using h
  have hown' := Lib.hid hown
  clear hown
  go_enter Try.func30, Try.ntmps30
  go_wp2
  refine bodyPost_ret (v := .agg #[.int .i64 f, .int .i64 (-1), .int .i64 (-1), .slice (some ⟨w.heap.size + 1, 0, none⟩) 25 25]) (by simp [results, Try.results30, go_sem]) rfl ⟨_, rfl, hown'.out _, ?_⟩
  exact ((Below.refl _ _).alloc (Nat.le_refl _) _).alloc (by simp) _

theorem eqFileIn_same (a b c : Int) (A B : Option Addr) (n m cp dp : Nat) (zs : List (List UInt8)) (w : World) (hn : zs.length = n) (hm : zs.length = m) (hb : n ≤ 1048576) (hr : Rd w 1 A n (zs.flatMap cS)) (hs : Rd w 1 B m (zs.flatMap cS)) :
    Calls Try.prog 32 #[.agg #[.int .i64 a, .int .i64 b, .int .i64 c, .slice A n cp], .agg #[.int .i64 a, .int .i64 b, .int .i64 c, .slice B m dp]] w fun e w' => e = .returned (.bool true) ∧ Below w.heap.size w w' := by
  go_enter Try.func32, Try.ntmps32
  go_wp2_with fail
  refine (eqStringS_any _ _ _ _ _ _ zs zs _ hn hm (by omega) (by omega) ((hr.alloc _).alloc _) ((hs.alloc _).alloc _)).mono ?_
  rintro e w1 ⟨rfl, hb1⟩
  go_wp2
  go_ret
  exact ⟨rfl, (((Below.refl _ _).alloc (Nat.le_refl _) _).alloc (by simp) _).trans (hb1.mono (by simp; omega))⟩

theorem markFileIn_any (base : Nat) (a b c : Int) (A : Option Addr) (n cp : Nat) (xs : List Value) (k : Int) (w : World) (hk0 : 1 ≤ k) (hk1 : k ≤ 2305843009213693952) (hm : n ≤ 2305843009213693952) (hown : w.ownsRow base 9 1 (.slice A n cp) n xs) :
    Calls Try.prog 33 #[.agg #[.int .i64 a, .int .i64 b, .int .i64 c, .slice A n cp], .int .i64 k] w fun e w' => e = .returned (.int .i64 (k + n)) ∧ w'.ownsRow base 9 1 (.slice A n cp) n ((marksS k n).flatMap cS) ∧ w.grownBy w' (A.map (·.block)) := by
  go_enter Try.func33, Try.ntmps33
  go_wp2_with fail
  refine (markStringS_any base _ _ _ xs k _ hk0 hk1 hm (hown.alloc _)).mono ?_
  rintro e w1 ⟨rfl, hown1, hg1⟩
  go_wp2
  go_ret
  exact ⟨rfl, hown1, grownBy_of_alloc hg1⟩

theorem heldFileIn_any (a b c : Int) (A : Option Addr) (n cp : Nat) (k : Int) (w : World) (hk0 : 1 ≤ k) (hk1 : k ≤ 2305843009213693952) (hm : n ≤ 2305843009213693952) (hr : Rd w 1 A n ((marksS k n).flatMap cS)) :
    Calls Try.prog 34 #[.agg #[.int .i64 a, .int .i64 b, .int .i64 c, .slice A n cp], .int .i64 k] w fun e w' => e = .returned (.int .i64 (k + n)) ∧ Below w.heap.size w w' := by
  go_enter Try.func34, Try.ntmps34
  go_wp2_with fail
  refine (heldStringS_any _ _ _ k _ hk0 hk1 hm (hr.alloc _)).mono ?_
  rintro e w1 ⟨rfl, hb1⟩
  go_wp2
  go_ret
  exact ⟨rfl, ((Below.refl _ _).alloc (Nat.le_refl _) _).trans (hb1.mono (by simp))⟩
end Go.Proofs.Ytimlddibaffjoaa
