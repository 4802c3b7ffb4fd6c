/- Contracts on receivers of commands and on notices: copies, validity, equality of equal ones, the notice of a receiver. No condition. -/
import Derived.Test.YtpnejmlbfadaaaaBase
import Derived.Test.YtpnejmlbfadaaaaOpen
namespace Go.Proofs.Ytpnejmlbfadaaaa
open Go.RowKit

theorem toReceiver_any (a : Int) (b c : Bool) (d : Int) (w : World) :
    Calls Try.prog 19 #[.agg #[.int .i64 a, .bool b, .bool c, .int .i64 d]] w fun e w' => e = .returned (.agg #[.int .i64 a, .bool b, .bool c, .int .i64 d]) ∧ Below w.heap.size w w' := by
  go_enter Try.func19, Try.ntmps19
  go_wp2
  refine bodyPost_ret (v := .agg #[.int .i64 a, .bool b, .bool c, .int .i64 d]) (by simp [results, Try.results19, go_sem]) rfl ⟨rfl, ?_⟩
  repeat (first | exact Below.refl _ _ | refine Below.setCell ?_ (by simp <;> omega) _ | refine Below.alloc ?_ (by simp <;> omega) _)

theorem toNotice_any (a : Int) (b c : Bool) (w : World) :
    Calls Try.prog 38 #[.agg #[.int .i64 a, .bool b, .bool c]] w fun e w' => e = .returned (.agg #[.int .i64 a, .bool b, .bool c]) ∧ Below w.heap.size w w' := by
  go_enter Try.func38, Try.ntmps38
  go_wp2
  refine bodyPost_ret (v := .agg #[.int .i64 a, .bool b, .bool c]) (by simp [results, Try.results38, go_sem]) rfl ⟨rfl, ?_⟩
  repeat (first | exact Below.refl _ _ | refine Below.setCell ?_ (by simp <;> omega) _ | refine Below.alloc ?_ (by simp <;> omega) _)

theorem noticeOf_any (a : Int) (b c : Bool) (d : Int) (w : World) :
    Calls Try.prog 25 #[.agg #[.int .i64 a, .bool b, .bool c, .int .i64 d]] w fun e w' => e = .returned (.agg #[.int .i64 a, .bool b, .bool c]) ∧ Below w.heap.size w w' := by
  go_enter Try.func25, Try.ntmps25
  go_wp2
  refine bodyPost_ret (v := .agg #[.int .i64 a, .bool b, .bool c]) (by simp [results, Try.results25, go_sem]) rfl ⟨rfl, ?_⟩
  repeat (first | exact Below.refl _ _ | refine Below.setCell ?_ (by simp <;> omega) _ | refine Below.alloc ?_ (by simp <;> omega) _)

theorem sNoticeOf_any (a : Int) (b c : Bool) (d : Int) (w : World) :
    Calls Try.prog 24 #[.agg #[.int .i64 a, .bool b, .bool c, .int .i64 d]] w fun e w' => e = .returned (.agg #[.int .i64 a, .bool b, .bool c]) ∧ Below w.heap.size w w' := by
  go_enter Try.func24, Try.ntmps24
  go_wp2
  refine bodyPost_ret (v := .agg #[.int .i64 a, .bool b, .bool c]) (by simp [results, Try.results24, go_sem]) rfl ⟨rfl, ?_⟩
  repeat (first | exact Below.refl _ _ | refine Below.setCell ?_ (by simp <;> omega) _ | refine Below.alloc ?_ (by simp <;> omega) _)

theorem eqNotice_same (a : Int) (b c : Bool) (w : World) :
    Calls Try.prog 23 #[.agg #[.int .i64 a, .bool b, .bool c], .agg #[.int .i64 a, .bool b, .bool c]] w fun e w' => e = .returned (.bool true) ∧ Below w.heap.size w w' := by
  go_enter Try.func23, Try.ntmps23
  go_wp2
  go_ret
  exact ⟨rfl, ((Below.refl _ _).alloc (Nat.le_refl _) _).alloc (by simp) _⟩

theorem eqReceiver_same (a : Int) (b c : Bool) (d : Int) (w : World) :
    Calls Try.prog 54 #[.agg #[.int .i64 a, .bool b, .bool c, .int .i64 d], .agg #[.int .i64 a, .bool b, .bool c, .int .i64 d]] w fun e w' => e = .returned (.bool true) ∧ Below w.heap.size w w' := by
  go_enter Try.func54, Try.ntmps54
  go_wp2
  go_ret
  exact ⟨rfl, ((Below.refl _ _).alloc (Nat.le_refl _) _).alloc (by simp) _⟩

def recvOk (a d : Int) : Bool := inB a 0 255 && inB d 0 1000000
theorem receiverOk_any (a : Int) (b c : Bool) (d : Int) (w : World) :
    Calls Try.prog 20 #[.agg #[.int .i64 a, .bool b, .bool c, .int .i64 d]] w fun e w' => e = .returned (.bool (recvOk a d)) ∧ Below w.heap.size w w' := by
  cases h1 : inB a 0 255
  all_goals
    have hc := Lib.hid (show recvOk a d = _ by unfold recvOk; rw [h1])
    go_enter Try.func20, Try.ntmps20
    go_wp2_with (go_at_call 62; refine (between_any _ _ _ _).mono ?_; rintro e w' ⟨rfl, rfl⟩)
    go_ret
    exact ⟨ret_bool (by rw [hc.out]; simp), (Below.refl _ _).alloc (Nat.le_refl _) _⟩
theorem sReceiverOk_any (a : Int) (b c : Bool) (d : Int) (w : World) :
    Calls Try.prog 18 #[.agg #[.int .i64 a, .bool b, .bool c, .int .i64 d]] w fun e w' => e = .returned (.bool (recvOk a d)) ∧ Below w.heap.size w w' := by
  cases h1 : inB a 0 255
  all_goals
    have hc := Lib.hid (show recvOk a d = _ by unfold recvOk; rw [h1])
    go_enter Try.func18, Try.ntmps18
    go_wp2_with (go_at_call 61; refine (l01In_any _ _ _ _).mono ?_; rintro e w' ⟨rfl, rfl⟩)
    go_ret
    exact ⟨ret_bool (by rw [hc.out]; simp), (Below.refl _ _).alloc (Nat.le_refl _) _⟩
end Go.Proofs.Ytpnejmlbfadaaaa
