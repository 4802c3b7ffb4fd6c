/- Contracts on records: copies, sizes, equality of equal ones, validity, in the program and in the reference. No condition. -/
import Derived.Test.YtoccapmoehdohaaBase
import Derived.Test.YtoccapmoehdohaaOpen
namespace Go.Proofs.Ytoccapmoehdohaa
open Go.RowKit
def Ez (a p t : Int) (d : List UInt8) : Bool:=inB a 0 65535 && inB p 0 3 && inB t 0 1000000 && decide ((d.length : Int) ≤ 34)
theorem Ey {a p t : Int} {d : List UInt8} (h : Ez a p t d = true) : (0 ≤ a ∧ a ≤ 65535) ∧ (0 ≤ p ∧ p ≤ 3) ∧ (0 ≤ t ∧ t ≤ 1000000) ∧ d.length ≤ 34:=by
 unfold Ez at h;simp only [Bool.and_eq_true,decide_eq_true_eq] at h;exact ⟨Cw h.1.1.1,Cw h.1.1.2,Cw h.1.2,by omega⟩
theorem recordOk_any (a p t : Int) (d : List UInt8) (w : World) (_hd : Txt d) :
  Calls Try.prog 94 #[.agg #[.int .i64 a,.int .i64 p,.int .i64 t,.string ⟨d.toArray⟩]] w fun e w'=>e = .returned (.bool (Ez a p t d)) ∧ Below w.heap.size w w':=by
 cases h1 : inB a 0 65535
 ·have hc:=Lib.hid (show Ez a p t d = false by unfold Ez; rw [h1]; rfl)
  go_enter Try.func94,Try.ntmps94
  go_wp2_with (go_at_call 43; refine (Bu _ _ _ _).mono ?_; rintro e w' ⟨rfl,rfl⟩)
  go_ret
  exact ⟨Cz hc.out.symm,(Below.refl _ _).alloc (Nat.le_refl _) _⟩
 cases h2 : inB p 0 3
 ·have hc:=Lib.hid (show Ez a p t d = false by unfold Ez; rw [h1,h2]; rfl)
  go_enter Try.func94,Try.ntmps94
  go_wp2_with (go_at_call 43; refine (Bu _ _ _ _).mono ?_; rintro e w' ⟨rfl,rfl⟩)
  go_ret
  exact ⟨Cz hc.out.symm,(Below.refl _ _).alloc (Nat.le_refl _) _⟩
 cases h3 : inB t 0 1000000
 ·have hc:=Lib.hid (show Ez a p t d = false by unfold Ez; rw [h1,h2,h3]; rfl)
  go_enter Try.func94,Try.ntmps94
  go_wp2_with (go_at_call 43; refine (Bu _ _ _ _).mono ?_; rintro e w' ⟨rfl,rfl⟩)
  go_ret
  exact ⟨Cz hc.out.symm,(Below.refl _ _).alloc (Nat.le_refl _) _⟩
 ·have hc:=Lib.hid (show Ez a p t d = decide ((d.length : Int) ≤ 34) by unfold Ez; rw [h1,h2,h3]; rfl)
  go_enter Try.func94,Try.ntmps94
  go_wp2_with (go_at_call 43; refine (Bu _ _ _ _).mono ?_; rintro e w' ⟨rfl,rfl⟩)
  go_ret
  exact ⟨Cz hc.out.symm,(Below.refl _ _).alloc (Nat.le_refl _) _⟩
end Go.Proofs.Ytoccapmoehdohaa
