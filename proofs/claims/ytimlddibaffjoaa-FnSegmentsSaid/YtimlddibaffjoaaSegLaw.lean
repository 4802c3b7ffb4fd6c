/- The parts of a file and its lists read back from their bytes; the segments of a file make the file. No condition. -/
import Derived.Test.YtimlddibaffjoaaSegCode
import Derived.Test.YtimlddibaffjoaaEndCode
import Derived.Test.YtimlddibaffjoaaMissing
import Derived.Test.YtimlddibaffjoaaPick
import Derived.Test.YtimlddibaffjoaaAt
namespace Go.Proofs.Ytimlddibaffjoaa
open Go.RowKit

theorem segMade (f k : Int) (d : List UInt8) (w : World) (hf : 0 ≤ f ∧ f ≤ 7) (hk : 0 ≤ k ∧ k ≤ 24) (hd : 1 ≤ d.length ∧ d.length ≤ 24) :
    Calls Try.prog 23 #[.string ⟨(encSeg f k d).toArray⟩] w fun e w' => e = .returned (.tuple #[.int .i64 f, .int .i64 k, .string ⟨d.toArray⟩, .bool true]) ∧ Below w.heap.size w w' := by
  have e : encSeg f k d = pw1 0 ++ pw1 f ++ pw1 k ++ d := by
    unfold encSeg
    rw [inB_mk hf.1 hf.2, inB_mk hk.1 hk.2, inB_mk (by omega) (by omega)]
    rfl
  have hl : (encSeg f k d).length = 3 + d.length := by rw [e]; simp [pw1]; omega
  have n0 : nth (encSeg f k d) 0 = 0 := by rw [e]; exact num_by1 0 (by omega) (by omega)
  have n1 : nth (encSeg f k d) 1 = f := by rw [e]; exact num_by1 f (by omega) (by omega)
  have n2 : nth (encSeg f k d) 2 = k := by rw [e]; exact num_by1 k (by omega) (by omega)
  have hok : decSegOk (encSeg f k d) = true := by
    unfold decSegOk
    rw [inB_mk (by omega) (by omega), n0, n1, n2, decide_eq_true hf.2, decide_eq_true hk.2]
    rfl
  have e1 : dsF (encSeg f k d) = f := by unfold dsF; rw [hok]; exact n1
  have e2 : dsK (encSeg f k d) = k := by unfold dsK; rw [hok]; exact n2
  have e3 : dsD (encSeg f k d) = d := by unfold dsD; rw [hok, e]; rfl
  have := decodeSegment_any (encSeg f k d) w (by unfold Txt; omega)
  rw [e1, e2, e3, hok] at this
  exact this
theorem endMade (f : Int) (d : List UInt8) (w : World) (hf : 0 ≤ f ∧ f ≤ 7) (hd : d.length ≤ 600) :
    Calls Try.prog 27 #[.string ⟨(encEnd f d).toArray⟩] w fun e w' => e = .returned (.tuple #[.int .i64 f, .int .i64 d.length, .int .i64 (crcOf d), .bool true]) ∧ Below w.heap.size w w' := by
  have hc := crcOf_lt d
  have e : encEnd f d = pw1 1 ++ pw1 f ++ pw2 d.length ++ pw2 (crcOf d) := by
    unfold encEnd
    rw [inB_mk hf.1 hf.2, decide_eq_true (by omega)]
    rfl
  have hl : (encEnd f d).length = 6 := by rw [e]; rfl
  have n0 : nth (encEnd f d) 0 = 1 := by rw [e]; exact num_by1 1 (by omega) (by omega)
  have n1 : nth (encEnd f d) 1 = f := by rw [e]; exact num_by1 f (by omega) (by omega)
  have n2 : nth (encEnd f d) 2 = (d.length : Int) / 256 := by rw [e]; exact num_by1 _ (by omega) (by omega)
  have n3 : nth (encEnd f d) 3 = (d.length : Int) % 256 := by rw [e]; exact num_by1 _ (by omega) (by omega)
  have n4 : nth (encEnd f d) 4 = (crcOf d : Int) / 256 := by rw [e]; exact num_by1 _ (by omega) (by omega)
  have n5 : nth (encEnd f d) 5 = (crcOf d : Int) % 256 := by rw [e]; exact num_by1 _ (by omega) (by omega)
  have hok : decEndOk (encEnd f d) = true := by
    unfold decEndOk
    rw [decide_eq_true hl, n0, n1, n2, n3, decide_eq_true hf.2, decide_eq_true (show (d.length : Int) / 256 * 256 + (d.length : Int) % 256 ≤ 600 by omega)]
    rfl
  have e1 : deF (encEnd f d) = f := by unfold deF; rw [hok]; exact n1
  have e2 : deS (encEnd f d) = d.length := by unfold deS; rw [hok, if_pos rfl, n2, n3]; omega
  have e3 : deC (encEnd f d) = crcOf d := by unfold deC; rw [hok, if_pos rfl, n4, n5]; omega
  have := decodeEnd_any (encEnd f d) w (by unfold Txt; omega)
  rw [e1, e2, e3, hok] at this
  exact this
theorem missMade (f a b : Int) (w : World) (hf : 0 ≤ f ∧ f ≤ 7) (ha : 0 ≤ a ∧ a ≤ 24) (hb : 0 ≤ b ∧ b ≤ 24) :
    Calls Try.prog 40 #[.string ⟨(encMiss f [a, b]).toArray⟩] w fun e w' => ∃ A c, e = .returned (.tuple #[.int .i64 f, .slice A 2 c, .bool true]) ∧ w'.ownsRow w.heap.size 3 1 (.slice A 2 c) 2 ([a, b].flatMap cI) ∧ Below w.heap.size w w' := by
  have hall : allB [a, b] 0 24 = true := by
    unfold allB
    simp only [List.all_cons, List.all_nil, inB_mk ha.1 ha.2, inB_mk hb.1 hb.2]
    rfl
  have e : encMiss f [a, b] = pw1 f ++ [a, b].flatMap pw1 := by
    unfold encMiss
    rw [inB_mk hf.1 hf.2, hall]
    rfl
  have hl : (encMiss f [a, b]).length = 3 := by rw [e]; rfl
  have n0 : nth (encMiss f [a, b]) 0 = f := by rw [e]; exact num_by1 f (by omega) (by omega)
  have ht : (encMiss f [a, b]).tail.map num = [a, b] := by
    rw [e]
    show [num (by1 a), num (by1 b)] = [a, b]
    rw [num_by1 a (by omega) (by omega), num_by1 b (by omega) (by omega)]
  have hok : decMissOk (encMiss f [a, b]) = true := by
    unfold decMissOk
    rw [ht, hall, n0, inB_mk (by omega) (by omega), decide_eq_true hf.2]
    rfl
  have e1 : dmF (encMiss f [a, b]) = f := by unfold dmF; rw [hok]; exact n0
  have e2 : dmL (encMiss f [a, b]) = [a, b] := by unfold dmL; rw [hok]; exact ht
  have := decodeMissing_any (encMiss f [a, b]) w (by unfold Txt; omega)
  rw [e1, e2, hok] at this
  exact this
theorem segOf_len {l : List UInt8} {k : Nat} (_hl : l.length ≤ 600) (hk : (k : Int) < cseg l.length) : 1 ≤ (segOf l k).length ∧ (segOf l k).length ≤ 24 ∧ l.take (24 * k) ++ segOf l k = l.take (24 * (k + 1)) := by
  have h1 : inB k 0 (cseg l.length - 1) = true := inB_mk (by omega) (by omega)
  obtain ⟨_, _, _, h2⟩ := cseg_pos h1
  rw [segOf_in h1, show ((k : Int)).toNat * 24 = 24 * k from by omega]
  refine ⟨?_, ?_, ?_⟩
  · rw [List.length_take, List.length_drop]; omega
  · rw [List.length_take]; omega
  · rw [show 24 * (k + 1) = 24 * k + 24 from by omega, List.take_add]
theorem cseg_all {l : List UInt8} {k : Nat} (hl : l.length ≤ 600) (hk : ¬ (k : Int) < cseg l.length) : l.take (24 * k) = l := by
  rw [cseg_in (inB_mk (by omega) (by omega))] at hk
  exact List.take_of_length_le (by omega)
theorem drawFile_any (A : Option Addr) (n c : Nat) (zs : List UInt8) (w : World) (hn : zs.length = n) (hm : n ≤ 1048576) (hr : Rd w 1 A n (zs.flatMap cB)) :
    Calls Try.prog 59 #[.slice A n c] w fun e w' => ∃ l : List UInt8, e = .returned (.string ⟨l.toArray⟩) ∧ l.length ≤ 200 ∧ Below w.heap.size w w' := by
  have hne : 0 < n → ∀ b o, A = some ⟨b, o, none⟩ → b ≠ w.heap.size := by
    intro h0 b o hA hb
    obtain ⟨b', o', e, hlt, _⟩ := hr.2 h0
    rw [hA] at e
    cases e
    omega
  go_enter Try.func59, Try.ntmps59
  go_wp2_with fail
  refine (l01New_any A n c zs _ hn hm hr).mono ?_
  rintro e w1 ⟨rfl, hC1, hb1⟩
  have hl1 := hC1.lt
  go_wp2_with fail
  refine (l01PickInt_any w.heap.size A n c zs (some ⟨w1.heap.size, 0, none⟩) 6 6 [0, 1, 24, 60, 120, 200] _ rfl (by omega) (by omega) (rd_litI _ _ rfl [0, 1, 24, 60, 120, 200] _ _ 6 rfl) (fun b o e => by cases e; omega) hn (by omega) ((hr.below hb1).alloc _) hne (hC1.allocs _)).mono ?_
  rintro e w2 ⟨x, rfl, hx, hC2, hg2⟩
  have hB1 := hb1.alloc hb1.size (.cells #[.int .i64 0, .int .i64 1, .int .i64 24, .int .i64 60, .int .i64 120, .int .i64 200] 3)
  have hB2 := hB1.grown hg2 hB1.size (fun k hk => by cases hk; exact Nat.le_refl _)
  have hx' : 0 ≤ x ∧ x ≤ 200 := by simp at hx; omega
  obtain ⟨k, rfl⟩ := Int.eq_ofNat_of_zero_le hx'.1
  go_wp2_with fail
  refine (l01Bytes_any w.heap.size A n c zs k _ (by omega) hn (by omega) (hr.below hB2) hne hC2).mono ?_
  rintro e w3 ⟨l, rfl, hl, hC3, hg3⟩
  go_wp2
  go_ret
  exact ⟨l, rfl, by omega, hB2.grown hg3 hB2.size (fun k hk => by cases hk; exact Nat.le_refl _)⟩
theorem sameInts_same (A B : Option Addr) (n m c d : Nat) (zs : List Int) (w : World) (hn : zs.length = n) (hm : zs.length = m) (hb : n ≤ 4611686018427387904) (hr : Rd w 1 A n (zs.flatMap cI)) (hs : Rd w 1 B m (zs.flatMap cI)) :
    Calls Try.prog 62 #[.slice A n c, .slice B m d] w fun e w' => e = .returned (.bool true) ∧ Below w.heap.size w w' := by
  subst hn
  subst hm
  go_enter Try.func62, Try.ntmps62
  go_wp2_with fail
  go_loopw [5] (fun i wr => ∃ k : Nat, k ≤ zs.length ∧ i = .int .i64 k ∧ Below w.heap.size w wr) (fun i _ => zs.length - (intOf i).toNat)
  case atStart => exact ⟨0, Nat.zero_le _, rfl, Below.refl _ _⟩
  case round =>
    obtain ⟨k, hk, rfl, hB⟩ := hrel
    by_cases hlt : k < zs.length
    · obtain ⟨b, o, rfl, _, hc⟩ := (hr.below hB).int rfl hlt
      obtain ⟨b', o', rfl, _, hc'⟩ := (hs.below hB).int rfl hlt
      have k0 : (0 : Int) ≤ k := by omega
      have k1 : (k : Int) < zs.length := by omega
      go_wp2_with fail
      go_quiet (fail)
      go_wp2
      go_roundw
      case rel => exact ⟨k + 1, by omega, by go_num, below_drewN hB _⟩
      case measure => simp [intOf]; omega
    · obtain rfl : k = zs.length := by omega
      go_wp2
      go_ret
      exact ⟨rfl, hB⟩
end Go.Proofs.Ytimlddibaffjoaa
