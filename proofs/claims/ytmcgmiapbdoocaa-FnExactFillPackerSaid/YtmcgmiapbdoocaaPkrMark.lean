/- Contracts: marks on a packer's row, and whether they are still there. No condition. -/
import Derived.Test.YtmcgmiapbdoocaaInts
import Derived.Test.YtmcgmiapbdoocaaFlowMem
namespace Go.Proofs.Ytmcgmiapbdoocaa
open Go.RowKit

theorem markPacker_any {base : Nat} {ch ct : Int} {rest : List UInt8} {B : Option Addr} {m d : Nat} {ys : List Value} {k : Int} (w : World) (hk0 : 1 ≤ k) (hk1 : k ≤ 576460752303423488) (hm : m ≤ 1048577) (hod : w.ownsRow base 3 1 (.slice B m d) m ys) :
    Calls Try.prog 21 #[.agg #[.int .i64 ch, .int .i64 ct, .string ⟨rest.toArray⟩, .slice B m d], .int .i64 k] w fun e w' => e = .returned (.int .i64 (k + ((m : Nat) : Int))) ∧ w'.ownsRow base 3 1 (.slice B m d) m ((marksI k m).flatMap cI) ∧ w.grownBy w' (B.map (·.block)) := by
  have hk2 : 0 ≤ k := by omega
  go_enter Try.func21, Try.ntmps21
  go_wp2_with fail
  refine (markIntS_any _ _ _ _ _ _ _ hk2 (by omega) (by omega) (hod.alloc _)).mono ?_
  rintro e w2 ⟨rfl, od, gd⟩
  go_wp2
  go_ret
  exact ⟨rfl, od, grown_trans' (World.grownBy_alloc w _ _) gd⟩
theorem heldPacker_any {ch ct : Int} {rest : List UInt8} {B : Option Addr} {m d : Nat} {k : Int} (w : World) (hk0 : 1 ≤ k) (hk1 : k ≤ 576460752303423488) (hm : m ≤ 1048577) (hr' : Rd w 1 B m ((marksI k m).flatMap cI)) :
    Calls Try.prog 22 #[.agg #[.int .i64 ch, .int .i64 ct, .string ⟨rest.toArray⟩, .slice B m d], .int .i64 k] w fun e w' => e = .returned (.int .i64 (k + ((m : Nat) : Int))) ∧ Below w.heap.size w w' := by
  have hk2 : 0 ≤ k := by omega
  have hk4 : ¬ (k + (m : Int) < 0) := by omega
  go_enter Try.func22, Try.ntmps22
  go_wp2_with fail
  refine (heldIntS_any _ _ _ _ _ hk2 (by omega) (by omega) (hr'.alloc _)).mono ?_
  rintro e w' ⟨rfl, rfl⟩
  go_wp2
  go_ret
  exact ⟨rfl, (Below.refl _ _).alloc (Nat.le_refl _) _⟩
end Go.Proofs.Ytmcgmiapbdoocaa
