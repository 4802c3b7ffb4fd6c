/- Commands and notices read back from their bytes; a turned command is none. No condition. -/
import Derived.Test.YtpnejmlbfadaaaaLock
import Derived.Test.YtpnejmlbfadaaaaNotice
import Derived.Test.YtpnejmlbfadaaaaDraw
import Derived.Test.YtpnejmlbfadaaaaTurn
namespace Go.Proofs.Ytpnejmlbfadaaaa
open Go.RowKit

theorem turn_bad {k n : Int} {d : List UInt8} {j : Nat} {y : UInt8} (h : cmdOk k n d = true) (hj : j < (encCmd k n d).length) (hy : y ≠ (encCmd k n d)[j]) : dcOk ((encCmd k n d).set j y) = false := by
  cases hx : dcOk ((encCmd k n d).set j y) with
  | false => rfl
  | true =>
    exfalso
    have e : encCmd k n d = sealT (pw1 k ++ pw1 n ++ d) := encCmd_yes h
    generalize encCmd k n d = t at *
    subst e
    unfold dcOk at hx
    simp only [Bool.and_eq_true] at hx
    have ho := hx.1.1
    unfold opOk at ho
    simp only [Bool.and_eq_true, beq_iff_eq] at ho
    exact sealT_set hj (fun e => hy e.symm) ho.2
theorem decodeTurned (k n : Int) (d : List UInt8) (j : Nat) (y : UInt8) (w : World) (h : cmdOk k n d = true) (hj : j < (encCmd k n d).length) (hy : y ≠ (encCmd k n d)[j]) :
    Calls Try.prog 43 #[.string ⟨((encCmd k n d).set j y).toArray⟩] w fun e w' => e = .returned (.tuple #[.int .i64 0, .int .i64 0, .string ⟨#[]⟩, .bool false]) ∧ Below w.heap.size w w' := by
  have hb := turn_bad h hj hy
  have hx := dc_no hb
  have htx : Txt ((encCmd k n d).set j y) := by
    have := encCmd_txt h
    unfold Txt at this ⊢
    rw [List.length_set]
    exact this
  have := decodeCommand_any ((encCmd k n d).set j y) w htx
  rw [hb, hx.1, hx.2.1, hx.2.2] at this
  exact this
theorem decodeMade (k n : Int) (d : List UInt8) (w : World) (h : cmdOk k n d = true) :
    Calls Try.prog 43 #[.string ⟨(encCmd k n d).toArray⟩] w fun e w' => e = .returned (.tuple #[.int .i64 k, .int .i64 n, .string ⟨d.toArray⟩, .bool true]) ∧ Below w.heap.size w w' := by
  obtain ⟨h1, h2, h3, h4⟩ := dc_enc h
  have := decodeCommand_any (encCmd k n d) w (encCmd_txt h)
  rw [h1, h2, h3, h4] at this
  exact this
theorem encCmd_pos {k n : Int} {d : List UInt8} (h : cmdOk k n d = true) : 0 < (encCmd k n d).length := by
  rw [encCmd_yes h, sealT_length]
  omega
theorem noticeMade (a : Int) (b c : Bool) (w : World) (h0 : 0 ≤ a) (h1 : a ≤ 255) :
    Calls Try.prog 22 #[.string ⟨(encNot a b c).toArray⟩] w fun e w' => e = .returned (.tuple #[.agg #[.int .i64 a, .bool b, .bool c], .bool true]) ∧ Below w.heap.size w w' := by
  have e : encNot a b c = pw1 a ++ pw1 (bitOf b + 2 * bitOf c) := by unfold encNot; rw [inB_mk h0 h1]; rfl
  have hb : 0 ≤ bitOf b + 2 * bitOf c ∧ bitOf b + 2 * bitOf c ≤ 3 := by cases b <;> cases c <;> decide
  have n0 : nth (encNot a b c) 0 = a := by rw [e]; exact num_by1 a h0 h1
  have n1 : nth (encNot a b c) 1 = bitOf b + 2 * bitOf c := by rw [e]; exact num_by1 _ (by omega) (by omega)
  have hl : (encNot a b c).length = 2 := by rw [e]; rfl
  have hok : decNotOk (encNot a b c) = true := by unfold decNotOk; rw [decide_eq_true hl, decide_eq_true (by omega)]; rfl
  have := decodeNotice_any (encNot a b c) w (by unfold Txt; omega)
  have e1 : dnE (encNot a b c) = a := by unfold dnE; rw [hok]; exact n0
  have e2 : dnL (encNot a b c) = b := by
    unfold dnL
    rw [hok, n1]
    cases b <;> cases c <;> rfl
  have e3 : dnA (encNot a b c) = c := by
    unfold dnA
    rw [hok, n1]
    cases b <;> cases c <;> rfl
  rw [e1, e2, e3, hok] at this
  exact this
end Go.Proofs.Ytpnejmlbfadaaaa
