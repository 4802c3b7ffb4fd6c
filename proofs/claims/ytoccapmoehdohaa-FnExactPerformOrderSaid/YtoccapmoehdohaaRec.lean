/- Contracts on records: copies, sizes, equality of equal ones, validity, in the program and in the reference. No condition. -/
import Derived.Test.YtoccapmoehdohaaBase
import Derived.Test.YtoccapmoehdohaaOpen
namespace Go.Proofs.Ytoccapmoehdohaa
open Go.RowKit
theorem toRecord_any (a p t : Int) (d : List UInt8) (w : World) :
  Calls Try.prog 115 #[.agg #[.int .i64 a,.int .i64 p,.int .i64 t,.string ⟨d.toArray⟩]] w fun e w'=>e = .returned (.agg #[.int .i64 a,.int .i64 p,.int .i64 t,.string ⟨d.toArray⟩]) ∧ Below w.heap.size w w':=by
 go_enter Try.func115,Try.ntmps115
 go_wp2
 refine bodyPost_ret (v:=.agg #[.int .i64 a,.int .i64 p,.int .i64 t,.string ⟨d.toArray⟩]) (by simp [results,Try.results115,go_sem]) rfl ⟨rfl,?_⟩
 repeat (first | exact Below.refl _ _ | refine Below.setCell ?_ (by simp <;> omega) _ | refine Below.alloc ?_ (by simp <;> omega) _)
theorem eqRecord_same (a p t : Int) (d : List UInt8) (w : World) :
  Calls Try.prog 117 #[.agg #[.int .i64 a,.int .i64 p,.int .i64 t,.string ⟨d.toArray⟩],.agg #[.int .i64 a,.int .i64 p,.int .i64 t,.string ⟨d.toArray⟩]] w fun e w'=>e = .returned (.bool true) ∧ Below w.heap.size w w':=by
 go_enter Try.func117,Try.ntmps117
 go_wp2
 go_ret
 exact ⟨rfl,((Below.refl _ _).alloc (Nat.le_refl _) _).alloc (by simp) _⟩
theorem szRecord_any (a p t : Int) (d : List UInt8) (left : Int) (w : World) (hd : Txt d) (h0 : 0 ≤ left) (h1 : left ≤ 1048576) :
  Calls Try.prog 114 #[.agg #[.int .i64 a,.int .i64 p,.int .i64 t,.string ⟨d.toArray⟩],.int .i64 left] w fun e w'=>∃ q : Int,e = .returned (.int .i64 q) ∧ -1 ≤ q ∧ q ≤ left ∧ (0 ≤ q → d.length ≤ 1048576) ∧ Below w.heap.size w w':=by
 unfold Txt at hd;by_cases hbig : left - d.length < 0
 ·go_enter Try.func114,Try.ntmps114
  go_wp2
  go_ret
  exact ⟨-1,rfl,by omega,by omega,by omega,(Below.refl _ _).alloc (Nat.le_refl _) _⟩
 ·go_enter Try.func114,Try.ntmps114
  go_wp2
  go_ret
  exact ⟨_,rfl,by omega,by omega,fun _=>by omega,(Below.refl _ _).alloc (Nat.le_refl _) _⟩
def Eg (a p t : Int) (d : List UInt8) : Bool:=inB a 0 65535 && inB p 0 3 && inB t 0 1000000 && decide ((d.length : Int) ≤ 34)
theorem Ez {a p t : Int} {d : List UInt8} (h : Eg a p t d = true) : (0 ≤ a ∧ a ≤ 65535) ∧ (0 ≤ p ∧ p ≤ 3) ∧ (0 ≤ t ∧ t ≤ 1000000) ∧ d.length ≤ 34:=by
 unfold Eg at h;simp only [Bool.and_eq_true,decide_eq_true_eq] at h;exact ⟨Dk h.1.1.1,Dk h.1.1.2,Dk h.1.2,by omega⟩
theorem recordOk_any (a p t : Int) (d : List UInt8) (w : World) (_hd : Txt d) :
  Calls Try.prog 94 #[.agg #[.int .i64 a,.int .i64 p,.int .i64 t,.string ⟨d.toArray⟩]] w fun e w'=>e = .returned (.bool (Eg a p t d)) ∧ Below w.heap.size w w':=by
 cases h1 : inB a 0 65535
 ·have hc:=Lib.hid (show Eg a p t d = false by unfold Eg; rw [h1]; rfl)
  go_enter Try.func94,Try.ntmps94
  go_wp2_with (go_at_call 43; refine (Ce _ _ _ _).mono ?_; rintro e w' ⟨rfl,rfl⟩)
  go_ret
  exact ⟨Cf hc.out.symm,(Below.refl _ _).alloc (Nat.le_refl _) _⟩
 cases h2 : inB p 0 3
 ·have hc:=Lib.hid (show Eg a p t d = false by unfold Eg; rw [h1,h2]; rfl)
  go_enter Try.func94,Try.ntmps94
  go_wp2_with (go_at_call 43; refine (Ce _ _ _ _).mono ?_; rintro e w' ⟨rfl,rfl⟩)
  go_ret
  exact ⟨Cf hc.out.symm,(Below.refl _ _).alloc (Nat.le_refl _) _⟩
 cases h3 : inB t 0 1000000
 ·have hc:=Lib.hid (show Eg a p t d = false by unfold Eg; rw [h1,h2,h3]; rfl)
  go_enter Try.func94,Try.ntmps94
  go_wp2_with (go_at_call 43; refine (Ce _ _ _ _).mono ?_; rintro e w' ⟨rfl,rfl⟩)
  go_ret
  exact ⟨Cf hc.out.symm,(Below.refl _ _).alloc (Nat.le_refl _) _⟩
 ·have hc:=Lib.hid (show Eg a p t d = decide ((d.length : Int) ≤ 34) by unfold Eg; rw [h1,h2,h3]; rfl)
  go_enter Try.func94,Try.ntmps94
  go_wp2_with (go_at_call 43; refine (Ce _ _ _ _).mono ?_; rintro e w' ⟨rfl,rfl⟩)
  go_ret
  exact ⟨Cf hc.out.symm,(Below.refl _ _).alloc (Nat.le_refl _) _⟩
theorem sRecordOk_any (a p t : Int) (d : List UInt8) (w : World) (_hd : Txt d) :
  Calls Try.prog 97 #[.agg #[.int .i64 a,.int .i64 p,.int .i64 t,.string ⟨d.toArray⟩]] w fun e w'=>e = .returned (.bool (Eg a p t d)) ∧ Below w.heap.size w w':=by
 cases h1 : inB a 0 65535
 ·have hc:=Lib.hid (show Eg a p t d = false by unfold Eg; rw [h1]; rfl)
  go_enter Try.func97,Try.ntmps97
  go_wp2_with (go_at_call 58; refine (Cn _ _ _ _).mono ?_; rintro e w' ⟨rfl,rfl⟩)
  go_ret
  exact ⟨Cf hc.out.symm,(Below.refl _ _).alloc (Nat.le_refl _) _⟩
 cases h2 : inB p 0 3
 ·have hc:=Lib.hid (show Eg a p t d = false by unfold Eg; rw [h1,h2]; rfl)
  go_enter Try.func97,Try.ntmps97
  go_wp2_with (go_at_call 58; refine (Cn _ _ _ _).mono ?_; rintro e w' ⟨rfl,rfl⟩)
  go_ret
  exact ⟨Cf hc.out.symm,(Below.refl _ _).alloc (Nat.le_refl _) _⟩
 cases h3 : inB t 0 1000000
 ·have hc:=Lib.hid (show Eg a p t d = false by unfold Eg; rw [h1,h2,h3]; rfl)
  go_enter Try.func97,Try.ntmps97
  go_wp2_with (go_at_call 58; refine (Cn _ _ _ _).mono ?_; rintro e w' ⟨rfl,rfl⟩)
  go_ret
  exact ⟨Cf hc.out.symm,(Below.refl _ _).alloc (Nat.le_refl _) _⟩
 ·have hc:=Lib.hid (show Eg a p t d = decide ((d.length : Int) ≤ 34) by unfold Eg; rw [h1,h2,h3]; rfl)
  go_enter Try.func97,Try.ntmps97
  go_wp2_with (go_at_call 58; refine (Cn _ _ _ _).mono ?_; rintro e w' ⟨rfl,rfl⟩)
  go_ret
  exact ⟨Cf hc.out.symm,(Below.refl _ _).alloc (Nat.le_refl _) _⟩
end Go.Proofs.Ytoccapmoehdohaa
