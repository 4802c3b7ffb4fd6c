/- Contracts of the statements' helpers on lists of texts: equality, marks and whether they are held. No condition. -/
import Derived.Test.YtimlddibaffjoaaBase
import Derived.Test.YtimlddibaffjoaaOpen
import Derived.Test.YtimlddibaffjoaaMarks
namespace Go.Proofs.Ytimlddibaffjoaa
open Go.RowKit

/-! ### equality -/
theorem eqStringS_any (A B : Option Addr) (n m c d : Nat) (zs ys : List (List UInt8)) (w : World) (hn : zs.length = n) (hm : ys.length = m) (hb : n ≤ 4611686018427387904) (hb' : m ≤ 4611686018427387904) (hr : Rd w 1 A n (zs.flatMap cS)) (hs : Rd w 1 B m (ys.flatMap cS)) :
    Calls Try.prog 72 #[.slice A n c, .slice B m d] w fun e w' => e = .returned (.bool (decide (zs = ys))) ∧ Below w.heap.size w w' := by
  subst hn
  subst hm
  by_cases hl : zs.length = ys.length
  · have hl2 : zs.length ≤ ys.length ∧ ys.length ≤ zs.length := by omega
    have hl3 : ((zs.length : Int) != ys.length) = false := by simp; omega
    have HL := Lib.hid hl
    clear hl
    go_enter Try.func72, Try.ntmps72
    go_wp2_with fail
    go_loopw [5] (fun i wr => ∃ k : Nat, k ≤ zs.length ∧ i = .int .i64 k ∧ Hid (zs.take k = ys.take k) ∧ Below w.heap.size w wr) (fun i _ => zs.length - (intOf i).toNat)
    case atStart => exact ⟨0, Nat.zero_le _, rfl, rfl, Below.refl _ _⟩
    case round =>
      obtain ⟨k, hk, rfl, heq, hB⟩ := hrel
      by_cases hlt : k < zs.length
      · have hlt2 : k < ys.length := by omega
        obtain ⟨b, o, rfl, _, hc⟩ := (hr.below hB).str rfl hlt
        obtain ⟨b', o', rfl, _, hc'⟩ := (hs.below hB).str rfl hlt2
        have k0 : (0 : Int) ≤ k := by omega
        have k1 : (k : Int) < zs.length := by omega
        have k2 : (k : Int) < ys.length := by omega
        by_cases hx : zs[k] = ys[k]
        · have hx' : (zs[k] == ys[k]) = true := by simp [hx]
          have hnext : Hid (zs.take (k + 1) = ys.take (k + 1)) := Lib.hid (by
            rw [List.take_succ_eq_append_getElem hlt, List.take_succ_eq_append_getElem hlt2, heq.out, hx])
          clear hx
          go_wp2_with fail
          go_quiet (fail)
          go_wp2
          go_roundw
          case rel => exact ⟨k + 1, by omega, by go_num, hnext.out, below_drewN hB _⟩
          case measure => simp [intOf]; omega
        · have hx' : (zs[k] == ys[k]) = false := by simp [hx]
          have hne : Hid (decide (zs = ys) = false) := Lib.hid (decide_eq_false fun e => hx (by subst e; rfl))
          clear hx
          go_wp2_with fail
          go_quiet (fail)
          go_wp2
          go_ret
          exact ⟨ret_bool hne.out.symm, below_drewN hB _⟩
      · obtain rfl : k = zs.length := by omega
        have hyes : Hid (decide (zs = ys) = true) := Lib.hid (decide_eq_true (by have := heq.out; rwa [List.take_length, HL.out, List.take_length] at this))
        go_wp2
        go_ret
        exact ⟨ret_bool hyes.out.symm, hB⟩
  · have hno : Hid (decide (zs = ys) = false) := Lib.hid (decide_eq_false fun e => hl (by rw [e]))
    have hl' : ((zs.length : Int) != ys.length) = true := by simp; omega
    clear hl
    go_enter Try.func72, Try.ntmps72
    go_wp2
    go_ret
    exact ⟨ret_bool hno.out.symm, Below.refl _ _⟩

/-! ### marks -/
def marksS (k : Int) (n : Nat) : List (List UInt8) := (List.range n).map fun (i : Nat) => markT (k + (i : Int))
theorem marksS_len (k : Int) (n : Nat) : (marksS k n).length = n := by simp [marksS]
theorem marksS_get (k : Int) (n i : Nat) (h : i < (marksS k n).length) : (marksS k n)[i] = markT (k + i) := by simp [marksS]
theorem marksS_step {xs : List Value} {k : Int} {i : Nat} (hi : i < xs.length) : ((marksS k i).flatMap cS ++ xs.drop i).set i (.string ⟨(markT (k + i)).toArray⟩) = (marksS k (i + 1)).flatMap cS ++ xs.drop (i + 1) := by
  have hl : ((marksS k i).flatMap cS).length = i := by rw [flatMap_length cS 1 cS_len, marksS_len, Nat.mul_one]
  rw [List.set_append_right _ _ (by omega), hl, Nat.sub_self, List.drop_eq_getElem_cons hi, List.set_cons_zero]
  unfold marksS
  rw [List.range_succ, List.map_append, List.flatMap_append, List.append_assoc]
  rfl
theorem marksS_cell {xs : List Value} {k : Int} {i : Nat} (hi : i < xs.length) : ((marksS k i).flatMap cS ++ xs.drop i)[i]? = some xs[i] := by
  have hl : ((marksS k i).flatMap cS).length = i := by rw [flatMap_length cS 1 cS_len, marksS_len, Nat.mul_one]
  rw [List.getElem?_append_right (by omega), hl, Nat.sub_self, List.getElem?_drop, Nat.add_zero, List.getElem?_eq_getElem hi]
theorem markStringS_any (base : Nat) (A : Option Addr) (n c : Nat) (xs : List Value) (k : Int) (w : World) (hk0 : 1 ≤ k) (hk1 : k ≤ 2305843009213693952) (hm : n ≤ 2305843009213693952) (hown : w.ownsRow base 9 1 (.slice A n c) n xs) :
    Calls Try.prog 73 #[.slice A n c, .int .i64 k] w fun e w' => e = .returned (.int .i64 (k + n)) ∧ w'.ownsRow base 9 1 (.slice A n c) n ((marksS k n).flatMap cS) ∧ w.grownBy w' (A.map (·.block)) := by
  have hxl : xs.length = n := by have := hown.1; omega
  have hxl' : xs.length ≤ n ∧ n ≤ xs.length := by omega
  clear hxl
  go_enter Try.func73, Try.ntmps73
  go_wp2_with fail
  go_loopw [1, 5] (fun q i wr => ∃ j : Nat, j ≤ n ∧ i = .int .i64 j ∧ q = .int .i64 (k + j) ∧ wr.ownsRow base 9 1 (.slice A n c) n ((marksS k j).flatMap cS ++ xs.drop j) ∧ w.grownBy wr (A.map (·.block))) (fun _ i _ => n - (intOf i).toNat)
  case atStart => exact ⟨0, Nat.zero_le _, rfl, by simp, by simpa [marksS] using hown, World.grownBy.refl _ _⟩
  case round =>
    obtain ⟨j, hj, rfl, rfl, hown', hg⟩ := hrel
    clear hown
    by_cases hlt : j < n
    · have hjx : j < xs.length := by omega
      have hAg : ∃ g, A = some ⟨g, 0, none⟩ := by
        rcases hown'.2 with ⟨_, h0⟩ | ⟨g, cap, cur, hv, _⟩
        · omega
        · simp only [Value.slice.injEq, true_and] at hv
          exact ⟨g, hv.1⟩
      obtain ⟨g, rfl⟩ := hAg
      go_wp2_with fail
      refine (markText_any _ _ (by omega) (by omega)).mono ?_
      rintro e w1 ⟨rfl, hb1⟩
      have hown1 := own_below hown' hb1
      have hg1 := grown_below hg hb1
      have hcell : w1.cell? ⟨g, j, none⟩ = some xs[j] := (hown1.cellAt j (by omega)).trans (marksS_cell hjx)
      have hfr := hown1.frozenAt j
      have hst := hown1.stored j (.string ⟨(markT (k + j)).toArray⟩)
      rw [marksS_step hjx] at hst
      have hst' := Lib.hid hst
      clear hown' hst hg hown1
      generalize xs[j] = old at hcell
      go_wp2
      go_roundw
      case rel => exact ⟨j + 1, by omega, by go_num, by go_num, hst'.out.1, grown_trans' hg1 hst'.out.2⟩
      case measure => simp [intOf]; omega
    · obtain rfl : j = n := by omega
      rw [List.drop_of_length_le (by omega), List.append_nil] at hown'
      go_wp2
      go_ret
      exact ⟨rfl, hown', hg⟩

theorem heldStringS_any (A : Option Addr) (n c : Nat) (k : Int) (w : World) (hk0 : 1 ≤ k) (hk1 : k ≤ 2305843009213693952) (hm : n ≤ 2305843009213693952) (hr : Rd w 1 A n ((marksS k n).flatMap cS)) :
    Calls Try.prog 74 #[.slice A n c, .int .i64 k] w fun e w' => e = .returned (.int .i64 (k + n)) ∧ Below w.heap.size w w' := by
  go_enter Try.func74, Try.ntmps74
  go_wp2_with fail
  go_loopw [1, 5] (fun q i wr => ∃ j : Nat, j ≤ n ∧ i = .int .i64 j ∧ q = .int .i64 (k + j) ∧ Below w.heap.size w wr) (fun _ i _ => n - (intOf i).toNat)
  case atStart => exact ⟨0, Nat.zero_le _, rfl, by simp, Below.refl _ _⟩
  case round =>
    obtain ⟨j, hj, rfl, rfl, hB⟩ := hrel
    by_cases hlt : j < n
    · have hlm : j < (marksS k n).length := by rw [marksS_len]; exact hlt
      have hr' := hr.below hB
      obtain ⟨b, o, rfl, hbl, hc⟩ := hr'.str (marksS_len k n) hlm
      rw [marksS_get] at hc
      have k0 : (0 : Int) ≤ j := by omega
      have k1 : (j : Int) < n := by omega
      go_wp2_with fail
      go_region_held3 (fun wx => Below wr.heap.size wr wx ∧ wx.cell? ⟨b, o + j, none⟩ = some (.string ⟨(markT (k + j)).toArray⟩)) (first | exact ⟨(Below.refl _ _).drew, hc⟩ | exact held_step hbl hc (by assumption) (by assumption)) (first | (go_at_call 82; refine (markText_any _ _ (by omega) (by omega)).mono ?_; rintro e w' ⟨rfl, hb⟩))
      all_goals
        rename_i hHeld
        have hB2 := below_step hB hHeld.1
        clear hHeld
        go_wp2
        go_roundw
        case rel => exact ⟨j + 1, by omega, by go_num, by go_num, hB2⟩
        case measure => simp [intOf]; omega
    · obtain rfl : j = n := by omega
      go_wp2
      go_ret
      exact ⟨rfl, hB⟩
theorem eqStringS_same (A B : Option Addr) (n m c d : Nat) (zs : List (List UInt8)) (w : World) (hn : zs.length = n) (hm : zs.length = m) (hb : n ≤ 4611686018427387904) (hr : Rd w 1 A n (zs.flatMap cS)) (hs : Rd w 1 B m (zs.flatMap cS)) :
    Calls Try.prog 72 #[.slice A n c, .slice B m d] w fun e w' => e = .returned (.bool true) ∧ Below w.heap.size w w' :=
  (eqStringS_any A B n m c d zs zs w hn hm hb (by omega) hr hs).mono fun _ _ h => ⟨by rw [h.1, decide_eq_true rfl], h.2⟩
theorem markStringS_own (base : Nat) (A : Option Addr) (n c : Nat) (xs : List Value) (k : Int) (w : World) (hk0 : 1 ≤ k) (hk1 : k ≤ 2305843009213693952) (hm : n ≤ 2305843009213693952) (hbase : base ≤ w.heap.size) (hown : w.ownsRow base 9 1 (.slice A n c) n xs) :
    Calls Try.prog 73 #[.slice A n c, .int .i64 k] w fun e w' => e = .returned (.int .i64 (k + n)) ∧ w'.ownsRow base 9 1 (.slice A n c) n ((marksS k n).flatMap cS) ∧ Below base w w' ∧ w.grownBy w' (A.map (·.block)) :=
  (markStringS_any base A n c xs k w hk0 hk1 hm hown).mono fun _ _ h => ⟨h.1, h.2.1, below_of_own hown h.2.2 hbase, h.2.2⟩
end Go.Proofs.Ytimlddibaffjoaa
