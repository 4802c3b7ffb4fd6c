/- Contracts: notices as bytes, and back, in the program and in the reference. No condition. -/
import Derived.Test.YtpnejmlbfadaaaaRecv
import Derived.Test.YtpnejmlbfadaaaaCheck
namespace Go.Proofs.Ytpnejmlbfadaaaa
open Go.RowKit

def bitOf (b : Bool) : Int := if b then 1 else 0
theorem l04Bit_any (b : Bool) (w : World) :
    Calls Try.prog 67 #[.bool b] w fun e w' => e = .returned (.int .i64 (bitOf b)) ∧ w = w' := by
  cases b
  all_goals
    go_enter Try.func67, Try.ntmps67
    go_wp2
    go_ret
    exact ⟨rfl, rfl⟩

def encNot (a : Int) (b c : Bool) : List UInt8 := if inB a 0 255 then pw1 a ++ pw1 (bitOf b + 2 * bitOf c) else []

theorem encodeNotice_any (a : Int) (b c : Bool) (w : World) :
    Calls Try.prog 39 #[.agg #[.int .i64 a, .bool b, .bool c]] w fun e w' => e = .returned (.string ⟨(encNot a b c).toArray⟩) ∧ Below w.heap.size w w' := by
  cases h : inB a 0 255
  · have hc := Lib.hid (show encNot a b c = [] by unfold encNot; rw [h]; rfl)
    go_enter Try.func39, Try.ntmps39
    go_wp2_with (go_at_call 62; refine (between_any _ _ _ _).mono ?_; rintro e w' ⟨rfl, rfl⟩)
    go_ret
    exact ⟨ret_str hc.out.symm, (Below.refl _ _).alloc (Nat.le_refl _) _⟩
  · have hc := Lib.hid (show encNot a b c = pw1 a ++ pw1 (bitOf b + 2 * bitOf c) by unfold encNot; rw [h]; rfl)
    have b1 := inB_true h
    cases b <;> cases c
    all_goals
      go_enter Try.func39, Try.ntmps39
      go_wp2_with (go_at_call 62; refine (between_any _ _ _ _).mono ?_; rintro e w' ⟨rfl, rfl⟩)
      refine (putWord1 _ _ (by omega) (by omega)).mono ?_
      rintro e w1 ⟨rfl, hb1⟩
      go_wp2_with fail
      refine (putWord1 _ _ (by decide) (by decide)).mono ?_
      rintro e w2 ⟨rfl, hb2⟩
      go_wp2
      go_ret
      exact ⟨ret_app hc.out.symm, below_step (((Below.refl _ _).alloc (Nat.le_refl _) _).trans (hb1.mono (by simp))) hb2⟩

theorem sEncodeNotice_any (a : Int) (b c : Bool) (w : World) :
    Calls Try.prog 37 #[.agg #[.int .i64 a, .bool b, .bool c]] w fun e w' => e = .returned (.string ⟨(encNot a b c).toArray⟩) ∧ Below w.heap.size w w' := by
  cases h : inB a 0 255
  · have hc := Lib.hid (show encNot a b c = [] by unfold encNot; rw [h]; rfl)
    go_enter Try.func37, Try.ntmps37
    go_wp2_with (go_at_call 61; refine (l01In_any _ _ _ _).mono ?_; rintro e w' ⟨rfl, rfl⟩)
    go_ret
    exact ⟨ret_str hc.out.symm, (Below.refl _ _).alloc (Nat.le_refl _) _⟩
  · have hc := Lib.hid (show encNot a b c = pw1 a ++ pw1 (bitOf b + 2 * bitOf c) by unfold encNot; rw [h]; rfl)
    have b1 := inB_true h
    have hf0 : 0 ≤ bitOf b + 2 * bitOf c ∧ bitOf b + 2 * bitOf c ≤ 3 := by cases b <;> cases c <;> decide
    have hq0 : 0 ≤ bitOf b ∧ bitOf b ≤ 1 := by cases b <;> decide
    have hq1 : 0 ≤ bitOf c ∧ bitOf c ≤ 1 := by cases c <;> decide
    go_enter Try.func37, Try.ntmps37
    go_wp2_with (go_at_call 61; refine (l01In_any _ _ _ _).mono ?_; rintro e w' ⟨rfl, rfl⟩)
    have hw0 : IntKind.i64.wrap (2 * bitOf c) = 2 * bitOf c := IntWalk.i64_in _ (by omega)
    have hw1 : IntKind.i64.wrap (bitOf b + 2 * bitOf c) = bitOf b + 2 * bitOf c := IntWalk.i64_in _ (by omega)
    have HK : Hid (∀ wx, Below (w.alloc (.cells #[.int .i64 a, .bool b, .bool c] 29)).heap.size (w.alloc (.cells #[.int .i64 a, .bool b, .bool c] 29)) wx → (Below (w.alloc (.cells #[.int .i64 a, .bool b, .bool c] 29)).heap.size (w.alloc (.cells #[.int .i64 a, .bool b, .bool c] 29)) wx ∧ wx.cell? ⟨w.heap.size, 0, none⟩ = some (.int .i64 a) ∧ wx.cell? ⟨w.heap.size, 1, none⟩ = some (.bool b) ∧ wx.cell? ⟨w.heap.size, 2, none⟩ = some (.bool c))) := Lib.hid (fun wx h => ⟨h, (h.cell (p := ⟨w.heap.size, 0, none⟩) (by simp; try omega)).trans (by simp [go_sem, go_sem]), (h.cell (p := ⟨w.heap.size, 1, none⟩) (by simp; try omega)).trans (by simp [go_sem, go_sem]), (h.cell (p := ⟨w.heap.size, 2, none⟩) (by simp; try omega)).trans (by simp [go_sem, go_sem])⟩)
    go_region_held3 (fun wx => Below (w.alloc (.cells #[.int .i64 a, .bool b, .bool c] 29)).heap.size (w.alloc (.cells #[.int .i64 a, .bool b, .bool c] 29)) wx ∧ wx.cell? ⟨w.heap.size, 0, none⟩ = some (.int .i64 a) ∧ wx.cell? ⟨w.heap.size, 1, none⟩ = some (.bool b) ∧ wx.cell? ⟨w.heap.size, 2, none⟩ = some (.bool c)) (first | exact HK.out _ (Below.refl _ _).drew | exact HK.out _ (below_step (And.left ‹_›) ‹_›)) (first | (go_at_call 67; refine (l04Bit_any _ _).mono ?_; rintro e w' ⟨rfl, rfl⟩; have hb7 := Below.refl ‹World›.heap.size ‹World›) | (go_at_call 66; (try rw [hw0, hw1]); refine (sPutWord1 _ _ (by omega) (by omega)).mono ?_; rintro e w' ⟨rfl, hb7⟩))
    all_goals
      have hH := And.left ‹_ ∧ _›
      go_wp2
      go_ret
      exact ⟨ret_app hc.out.symm, ((Below.refl _ _).alloc (Nat.le_refl _) _).trans (hH.mono (by simp))⟩

/-- Whether bytes are a notice's. -/
def decNotOk (l : List UInt8) : Bool := decide (l.length = 2) && decide (nth l 1 ≤ 3)
def dnE (l : List UInt8) : Int := if decNotOk l then nth l 0 else 0
def dnL (l : List UInt8) : Bool := if decNotOk l then nth l 1 == 1 || nth l 1 == 3 else false
def dnA (l : List UInt8) : Bool := if decNotOk l then nth l 1 == 2 || nth l 1 == 3 else false

theorem q01 : bits .and .u8 0 1 = 0 := by decide
theorem q02 : bits .and .u8 0 2 = 0 := by decide
theorem q11 : bits .and .u8 1 1 = 1 := by decide
theorem q12 : bits .and .u8 1 2 = 0 := by decide
theorem q21 : bits .and .u8 2 1 = 0 := by decide
theorem q22 : bits .and .u8 2 2 = 2 := by decide
theorem q31 : bits .and .u8 3 1 = 1 := by decide
theorem q32 : bits .and .u8 3 2 = 2 := by decide

theorem decodeNotice_any (l : List UInt8) (w : World) (_hl : Txt l) :
    Calls Try.prog 22 #[.string ⟨l.toArray⟩] w fun e w' => e = .returned (.tuple #[.agg #[.int .i64 (dnE l), .bool (dnL l), .bool (dnA l)], .bool (decNotOk l)]) ∧ Below w.heap.size w w' := by
  have a1 := nth_lo l 1
  have c1 := nth_hi l 1
  by_cases h2 : l.length = 2
  · by_cases h3 : nth l 1 ≤ 3
    · have hk : decNotOk l = true := by unfold decNotOk; rw [decide_eq_true h2, decide_eq_true h3]; rfl
      have hx : nth l 1 = 0 ∨ nth l 1 = 1 ∨ nth l 1 = 2 ∨ nth l 1 = 3 := by omega
      rcases hx with hx | hx | hx | hx
      all_goals
        have hE := Lib.hid (show dnE l = nth l 0 by unfold dnE; rw [hk]; rfl)
        have hL := Lib.hid (show dnL l = (nth l 1 == 1 || nth l 1 == 3) by unfold dnL; rw [hk]; rfl)
        have hA := Lib.hid (show dnA l = (nth l 1 == 2 || nth l 1 == 3) by unfold dnA; rw [hk]; rfl)
        have hK := Lib.hid hk
        clear hk
        go_enter Try.func22, Try.ntmps22
        go_wp2
        go_region
        go_wp2
        refine bodyPost_ret (v := .tuple #[.agg #[.int .i64 (dnE l), .bool (dnL l), .bool (dnA l)], .bool (decNotOk l)]) (by simp [results, Try.results22, go_sem, hE.out, hL.out, hA.out, hK.out, hx, q01, q02, q11, q12, q21, q22, q31, q32]) rfl ⟨rfl, ?_⟩
        exact ((Below.refl _ _).alloc (Nat.le_refl _) _).drew
    · have hk : decNotOk l = false := by unfold decNotOk; rw [decide_eq_false h3]; simp
      have hE := Lib.hid (show dnE l = 0 ∧ dnL l = false ∧ dnA l = false by unfold dnE dnL dnA; rw [hk]; exact ⟨rfl, rfl, rfl⟩)
      have hK := Lib.hid hk
      clear hk
      go_enter Try.func22, Try.ntmps22
      go_wp2
      refine bodyPost_ret (v := .tuple #[.agg #[.int .i64 (dnE l), .bool (dnL l), .bool (dnA l)], .bool (decNotOk l)]) (by simp [results, Try.results22, go_sem, hE.out.1, hE.out.2.1, hE.out.2.2, hK.out]) rfl ⟨rfl, ?_⟩
      repeat (first | exact Below.refl _ _ | refine Below.setCell ?_ (by simp <;> omega) _ | refine Below.alloc ?_ (by simp <;> omega) _)
  · have hk : decNotOk l = false := by unfold decNotOk; rw [decide_eq_false h2]; rfl
    have hE := Lib.hid (show dnE l = 0 ∧ dnL l = false ∧ dnA l = false by unfold dnE dnL dnA; rw [hk]; exact ⟨rfl, rfl, rfl⟩)
    have hK := Lib.hid hk
    clear hk
    go_enter Try.func22, Try.ntmps22
    go_wp2
    refine bodyPost_ret (v := .tuple #[.agg #[.int .i64 (dnE l), .bool (dnL l), .bool (dnA l)], .bool (decNotOk l)]) (by simp [results, Try.results22, go_sem, hE.out.1, hE.out.2.1, hE.out.2.2, hK.out]) rfl ⟨rfl, ?_⟩
    repeat (first | exact Below.refl _ _ | refine Below.setCell ?_ (by simp <;> omega) _ | refine Below.alloc ?_ (by simp <;> omega) _)

theorem sDecodeNotice_any (l : List UInt8) (w : World) (_hl : Txt l) :
    Calls Try.prog 21 #[.string ⟨l.toArray⟩] w fun e w' => e = .returned (.tuple #[.agg #[.int .i64 (dnE l), .bool (dnL l), .bool (dnA l)], .bool (decNotOk l)]) ∧ Below w.heap.size w w' := by
  have a1 := nth_lo l 1
  have c1 := nth_hi l 1
  by_cases h2 : l.length = 2
  · by_cases h3 : nth l 1 ≤ 3
    · have hk : decNotOk l = true := by unfold decNotOk; rw [decide_eq_true h2, decide_eq_true h3]; rfl
      have hx : nth l 1 = 0 ∨ nth l 1 = 1 ∨ nth l 1 = 2 ∨ nth l 1 = 3 := by omega
      rcases hx with hx | hx | hx | hx
      all_goals
        have hE := Lib.hid (show dnE l = nth l 0 by unfold dnE; rw [hk]; rfl)
        have hL := Lib.hid (show dnL l = (nth l 1 == 1 || nth l 1 == 3) by unfold dnL; rw [hk]; rfl)
        have hA := Lib.hid (show dnA l = (nth l 1 == 2 || nth l 1 == 3) by unfold dnA; rw [hk]; rfl)
        have hK := Lib.hid hk
        clear hk
        go_enter Try.func21, Try.ntmps21
        go_wp2
        go_region
        go_wp2
        refine bodyPost_ret (v := .tuple #[.agg #[.int .i64 (dnE l), .bool (dnL l), .bool (dnA l)], .bool (decNotOk l)]) (by simp [results, Try.results21, go_sem, hE.out, hL.out, hA.out, hK.out, hx, q01, q02, q11, q12, q21, q22, q31, q32]) rfl ⟨rfl, ?_⟩
        exact ((Below.refl _ _).alloc (Nat.le_refl _) _).drew
    · have hk : decNotOk l = false := by unfold decNotOk; rw [decide_eq_false h3]; simp
      have hE := Lib.hid (show dnE l = 0 ∧ dnL l = false ∧ dnA l = false by unfold dnE dnL dnA; rw [hk]; exact ⟨rfl, rfl, rfl⟩)
      have hK := Lib.hid hk
      clear hk
      go_enter Try.func21, Try.ntmps21
      go_wp2
      refine bodyPost_ret (v := .tuple #[.agg #[.int .i64 (dnE l), .bool (dnL l), .bool (dnA l)], .bool (decNotOk l)]) (by simp [results, Try.results21, go_sem, hE.out.1, hE.out.2.1, hE.out.2.2, hK.out]) rfl ⟨rfl, ?_⟩
      repeat (first | exact Below.refl _ _ | refine Below.setCell ?_ (by simp <;> omega) _ | refine Below.alloc ?_ (by simp <;> omega) _)
  · have hk : decNotOk l = false := by unfold decNotOk; rw [decide_eq_false h2]; rfl
    have hE := Lib.hid (show dnE l = 0 ∧ dnL l = false ∧ dnA l = false by unfold dnE dnL dnA; rw [hk]; exact ⟨rfl, rfl, rfl⟩)
    have hK := Lib.hid hk
    clear hk
    go_enter Try.func21, Try.ntmps21
    go_wp2
    refine bodyPost_ret (v := .tuple #[.agg #[.int .i64 (dnE l), .bool (dnL l), .bool (dnA l)], .bool (decNotOk l)]) (by simp [results, Try.results21, go_sem, hE.out.1, hE.out.2.1, hE.out.2.2, hK.out]) rfl ⟨rfl, ?_⟩
    repeat (first | exact Below.refl _ _ | refine Below.setCell ?_ (by simp <;> omega) _ | refine Below.alloc ?_ (by simp <;> omega) _)

end Go.Proofs.Ytpnejmlbfadaaaa
