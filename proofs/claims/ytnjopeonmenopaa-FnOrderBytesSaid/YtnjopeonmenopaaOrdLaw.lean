/- Orders and records read back from their bytes. No condition. -/
import Derived.Test.YtnjopeonmenopaaOrdCode
import Derived.Test.YtnjopeonmenopaaRecCode
import Derived.Test.YtnjopeonmenopaaDrawOrds
import Derived.Test.YtnjopeonmenopaaAt
import Derived.Test.YtnjopeonmenopaaMild
namespace Go.Proofs.Ytnjopeonmenopaa
open Go.RowKit

theorem orderMade (k t a b : Int) (w : World) (h : ordOk k t a b = true) :
    Calls Try.prog 30 #[.string ⟨(encOrd k t a b).toArray⟩] w fun e w' => e = .returned (.tuple #[.agg #[.int .i64 k, .int .i64 t, .int .i64 a, .int .i64 b], .bool true]) ∧ Below w.heap.size w w' := by
  obtain ⟨b1, b2, b3, b4⟩ := ordOk_parts h
  have e : encOrd k t a b = pwS k 1 ++ pwS t 3 ++ pwS a 1 ++ pwS b 2 := by unfold encOrd; rw [h]; rfl
  have e0 : oK (encOrd k t a b) = k := by rw [e]; exact num_by1 k (by omega) (by omega)
  have t0 : nth (encOrd k t a b) 1 = t / 65536 := by rw [e]; exact num_by1 _ (by omega) (by omega)
  have t1 : nth (encOrd k t a b) (1 + 1) = t / 256 % 256 := by rw [e]; exact num_by1 _ (by omega) (by omega)
  have t2 : nth (encOrd k t a b) (1 + 2) = t % 256 := by rw [e]; exact num_by1 _ (by omega) (by omega)
  have e1 : oT (encOrd k t a b) = t := by unfold oT; rw [t0, t1, t2]; omega
  have e2 : oA (encOrd k t a b) = a := by rw [e]; exact num_by1 a (by omega) (by omega)
  have c0 : nth (encOrd k t a b) 5 = b / 256 := by rw [e]; exact num_by1 _ (by omega) (by omega)
  have c1 : nth (encOrd k t a b) (5 + 1) = b % 256 := by rw [e]; exact num_by1 _ (by omega) (by omega)
  have e3 : oB (encOrd k t a b) = b := by unfold oB; rw [c0, c1]; omega
  have hl : (encOrd k t a b).length = 7 := by rw [e]; rfl
  have hok : dOk (encOrd k t a b) = true := by unfold dOk; rw [decide_eq_true hl, e0, e1, e2, e3, h]; rfl
  have := decodeOrder_any (encOrd k t a b) w (by unfold Txt; omega)
  unfold dOrdV ordV at this
  rw [hok, e0, e1, e2, e3] at this
  exact this
theorem recordMade (a p t : Int) (d : List UInt8) (w : World) (h : recOk a p t d = true) :
    Calls Try.prog 25 #[.string ⟨(encRec a p t d).toArray⟩] w fun e w' => e = .returned (.tuple #[.agg #[.int .i64 a, .int .i64 p, .int .i64 t, .string ⟨d.toArray⟩], .bool true]) ∧ Below w.heap.size w w' := by
  obtain ⟨b1, b2, b3, b4⟩ := recOk_parts h
  have e : encRec a p t d = pwS a 2 ++ pwS p 1 ++ pwS t 3 ++ d := by unfold encRec; rw [h]; rfl
  have a0 : nth (encRec a p t d) 0 = a / 256 := by rw [e]; exact num_by1 _ (by omega) (by omega)
  have a1 : nth (encRec a p t d) (0 + 1) = a % 256 := by rw [e]; exact num_by1 _ (by omega) (by omega)
  have e0 : rA (encRec a p t d) = a := by unfold rA; rw [a0, a1]; omega
  have e1 : rP (encRec a p t d) = p := by rw [e]; exact num_by1 p (by omega) (by omega)
  have t0 : nth (encRec a p t d) 3 = t / 65536 := by rw [e]; exact num_by1 _ (by omega) (by omega)
  have t1 : nth (encRec a p t d) (3 + 1) = t / 256 % 256 := by rw [e]; exact num_by1 _ (by omega) (by omega)
  have t2 : nth (encRec a p t d) (3 + 2) = t % 256 := by rw [e]; exact num_by1 _ (by omega) (by omega)
  have e2 : rT (encRec a p t d) = t := by unfold rT; rw [t0, t1, t2]; omega
  have e3 : rD (encRec a p t d) = d := by rw [e]; rfl
  have hl : (encRec a p t d).length = 6 + d.length := by rw [e]; simp [pwS, pw2, pw1, pw3]; omega
  have hok : dROk (encRec a p t d) = true := by unfold dROk; rw [decide_eq_true (by omega), e0, e1, e2, e3, h]; rfl
  have := decodeRecord_any (encRec a p t d) w (by unfold Txt; omega)
  unfold dRecV recV at this
  rw [hok, e0, e1, e2, e3] at this
  exact this
theorem encRec_len {a p t : Int} {d : List UInt8} (h : recOk a p t d = true) : (encRec a p t d).length = 6 + d.length := by
  have e : encRec a p t d = pwS a 2 ++ pwS p 1 ++ pwS t 3 ++ d := by unfold encRec; rw [h]; rfl
  rw [e]
  simp [pwS, pw2, pw1, pw3]
  omega
theorem encOrd_txt (k t a b : Int) : Txt (encOrd k t a b) := by
  unfold encOrd Txt
  split
  · show 7 ≤ _
    omega
  · simp
end Go.Proofs.Ytnjopeonmenopaa
