/- Contracts on orders: copies, equality of equal ones, validity, their bytes and back, in the program and in the reference. No condition. -/
import Derived.Test.YtoccapmoehdohaaBase
import Derived.Test.YtoccapmoehdohaaOpen
namespace Go.Proofs.Ytoccapmoehdohaa
open Go.RowKit
theorem toOrder_any (k t a b : Int) (w : World) :
  Calls Try.prog 34 #[.agg #[.int .i64 k, .int .i64 t, .int .i64 a, .int .i64 b]] w fun e w' => e = .returned (.agg #[.int .i64 k, .int .i64 t, .int .i64 a, .int .i64 b]) ∧ Below w.heap.size w w' := by
 go_enter Try.func34, Try.ntmps34
 go_wp2
 refine bodyPost_ret (v := .agg #[.int .i64 k, .int .i64 t, .int .i64 a, .int .i64 b]) (by simp [results, Try.results34, go_sem]) rfl ⟨rfl, ?_⟩
 repeat (first | exact Below.refl _ _ | refine Below.setCell ?_ (by simp <;> omega) _ | refine Below.alloc ?_ (by simp <;> omega) _)
theorem eqOrder_same (k t a b : Int) (w : World) :
  Calls Try.prog 116 #[.agg #[.int .i64 k, .int .i64 t, .int .i64 a, .int .i64 b], .agg #[.int .i64 k, .int .i64 t, .int .i64 a, .int .i64 b]] w fun e w' => e = .returned (.bool true) ∧ Below w.heap.size w w' := by
 go_enter Try.func116, Try.ntmps116
 go_wp2
 go_ret
 exact ⟨rfl, ((Below.refl _ _).alloc (Nat.le_refl _) _).alloc (by simp) _⟩
def topA (k : Int) : Int := if k = 0 then 7 else if k = 1 then 3 else if k = 2 then 1 else if k = 3 then 7 else 255
def Da (k t a b : Int) : Bool := inB k 0 4 && inB t 0 1000000 && inB a 0 (topA k) && (if k = 0 then inB b 0 65535 else b == 0)
theorem ordOk_parts {k t a b : Int} (h : Da k t a b = true) : (0 ≤ k ∧ k ≤ 4) ∧ (0 ≤ t ∧ t ≤ 1000000) ∧ (0 ≤ a ∧ a ≤ 255) ∧ (0 ≤ b ∧ b ≤ 65535) := by
  unfold Da at h
  simp only [Bool.and_eq_true] at h
  have h1 := Cw h.1.1.1
  have h2 := Cw h.1.1.2
  have h3 := Cw h.1.2
  have h4 : topA k ≤ 255 := by unfold topA; repeat' split
                               all_goals omega
  refine ⟨h1, h2, by omega, ?_⟩
  have h5 := h.2
  split at h5
  · exact Cw h5
  · have : b = 0 := by simpa using h5
    omega
theorem orderOk_any (k t a b : Int) (w : World) :
  Calls Try.prog 40 #[.agg #[.int .i64 k, .int .i64 t, .int .i64 a, .int .i64 b]] w fun e w' => e = .returned (.bool (Da k t a b)) ∧ Below w.heap.size w w' := by
 cases h1 : inB k 0 4
 ·have hc := Lib.hid (show Da k t a b = false by unfold Da; rw [h1]; rfl)
  go_enter Try.func40, Try.ntmps40
  go_wp2_with (go_at_call 43; refine (Bu _ _ _ _).mono ?_; rintro e w' ⟨rfl, rfl⟩)
  go_ret
  exact ⟨Cz hc.out.symm, (Below.refl _ _).alloc (Nat.le_refl _) _⟩
 cases h2 : inB t 0 1000000
 ·have hc := Lib.hid (show Da k t a b = false by unfold Da; rw [h1, h2]; rfl)
  go_enter Try.func40, Try.ntmps40
  go_wp2_with (go_at_call 43; refine (Bu _ _ _ _).mono ?_; rintro e w' ⟨rfl, rfl⟩)
  go_ret
  exact ⟨Cz hc.out.symm, (Below.refl _ _).alloc (Nat.le_refl _) _⟩
 have hb := Cw h1;have hk : k = 0 ∨ k = 1 ∨ k = 2 ∨ k = 3 ∨ k = 4 := by omega
 rcases hk with rfl | rfl | rfl | rfl | rfl
 ·cases h3 : inB a 0 7
  all_goals
   have hc := Lib.hid (show Da 0 t a b = _ by unfold Da; rw [h1, h2, show topA 0 = 7 from rfl, h3, if_pos rfl])
   go_enter Try.func40, Try.ntmps40
   go_wp2_with (go_at_call 43; refine (Bu _ _ _ _).mono ?_; rintro e w' ⟨rfl, rfl⟩)
   go_ret
   exact ⟨Cz (by rw [hc.out]; simp), (Below.refl _ _).alloc (Nat.le_refl _) _⟩
 ·cases h3 : inB a 0 3
  all_goals
   have hc := Lib.hid (show Da 1 t a b = _ by unfold Da; rw [h1, h2, show topA 1 = 3 from rfl, h3, if_neg (by decide)])
   go_enter Try.func40, Try.ntmps40
   go_wp2_with (go_at_call 43; refine (Bu _ _ _ _).mono ?_; rintro e w' ⟨rfl, rfl⟩)
   go_ret
   exact ⟨Cz (by rw [hc.out]; simp), (Below.refl _ _).alloc (Nat.le_refl _) _⟩
 ·cases h3 : inB a 0 1
  all_goals
   have hc := Lib.hid (show Da 2 t a b = _ by unfold Da; rw [h1, h2, show topA 2 = 1 from rfl, h3, if_neg (by decide)])
   go_enter Try.func40, Try.ntmps40
   go_wp2_with (go_at_call 43; refine (Bu _ _ _ _).mono ?_; rintro e w' ⟨rfl, rfl⟩)
   go_ret
   exact ⟨Cz (by rw [hc.out]; simp), (Below.refl _ _).alloc (Nat.le_refl _) _⟩
 ·cases h3 : inB a 0 7
  all_goals
   have hc := Lib.hid (show Da 3 t a b = _ by unfold Da; rw [h1, h2, show topA 3 = 7 from rfl, h3, if_neg (by decide)])
   go_enter Try.func40, Try.ntmps40
   go_wp2_with (go_at_call 43; refine (Bu _ _ _ _).mono ?_; rintro e w' ⟨rfl, rfl⟩)
   go_ret
   exact ⟨Cz (by rw [hc.out]; simp), (Below.refl _ _).alloc (Nat.le_refl _) _⟩
 ·cases h3 : inB a 0 255
  all_goals
   have hc := Lib.hid (show Da 4 t a b = _ by unfold Da; rw [h1, h2, show topA 4 = 255 from rfl, h3, if_neg (by decide)])
   go_enter Try.func40, Try.ntmps40
   go_wp2_with (go_at_call 43; refine (Bu _ _ _ _).mono ?_; rintro e w' ⟨rfl, rfl⟩)
   go_ret
   exact ⟨Cz (by rw [hc.out]; simp), (Below.refl _ _).alloc (Nat.le_refl _) _⟩
end Go.Proofs.Ytoccapmoehdohaa
