/- Contracts of the statements' helpers on lists of texts: marks' texts, a copy, equality, marks and whether they are held. No condition. -/
import Derived.Test.YtimlddibaffjoaaBase
import Derived.Test.YtimlddibaffjoaaOpen
import Derived.Test.YtimlddibaffjoaaInts
namespace Go.Proofs.Ytimlddibaffjoaa
open Go.RowKit

/-! ### a mark's text -/
def digs : Nat → Nat → List UInt8 → List UInt8
  | 0, _, acc => acc
  | f + 1, k, acc => if k = 0 then acc else digs f (k / 10) (by1 (48 + ((k % 10 : Nat) : Int)) :: acc)
/-- The letter m and the digits of k. -/
def markT (k : Int) : List UInt8 := 109 :: digs (k.toNat + 1) k.toNat []
theorem digs_step {f k : Nat} {acc : List UInt8} (hk : ¬ k = 0) : digs (f + 1) k acc = digs f (k / 10) (by1 (48 + ((k % 10 : Nat) : Int)) :: acc) := if_neg hk
theorem digs_zero (f : Nat) (acc : List UInt8) : digs f 0 acc = acc := by cases f <;> rfl

theorem by1_dig : ∀ m : Nat, m < 10 → by1 (48 + (m : Int)) = 48 + UInt8.ofNat m := by decide

theorem markText_any (k : Int) (w : World) (hk0 : 1 ≤ k) (hk1 : k ≤ 4611686018427387904) :
    Calls Try.prog 82 #[.int .i64 k] w fun e w' => e = .returned (.string ⟨(markT k).toArray⟩) ∧ Below w.heap.size w w' := by
  have hcv : ∀ (w : World) (a : Int), (convert 67 9 (.slice (some ⟨w.heap.size, 0, none⟩) 1 1)).run Try.prog (w.alloc (.cells #[.int .u8 a] 5)) = .ok (.string ⟨#[UInt8.ofNat a.toNat]⟩) (w.alloc (.cells #[.int .u8 a] 5)) :=
    fun w a => run_conv_new Try.prog w _ _ _ Try.underlying67 Try.underlying5 Try.underlying9 [a] 1
  obtain ⟨K, rfl⟩ := Int.eq_ofNat_of_zero_le (show 0 ≤ k by omega)
  have hT : Hid (markT K = 109 :: digs (K + 1) K []) := Lib.hid (by unfold markT; rw [Int.toNat_natCast])
  go_enter Try.func82, Try.ntmps82
  go_wp2
  go_loopw [0, 3] (fun q s wr => ∃ (j f : Nat) (acc : List UInt8), j ≤ f ∧ j + acc.length ≤ K ∧ q = .int .i64 j ∧ s = .string ⟨acc.toArray⟩ ∧ Hid (digs (f + 1) j acc = digs (K + 1) K []) ∧ Below w.heap.size w wr) (fun q _ _ => (intOf q).toNat)
  case atStart => exact ⟨K, K, [], Nat.le_refl _, by simp, rfl, rfl, rfl, Below.refl _ _⟩
  case round =>
    obtain ⟨j, f, acc, hjf, hja, rfl, rfl, hd, hB⟩ := hrel
    by_cases hj : j = 0
    · subst hj
      have hacc : Hid (acc = digs (K + 1) K []) := Lib.hid (by rw [← hd.out, digs_zero])
      go_wp2
      go_ret
      exact ⟨ret_app (by rw [hT.out, hacc.out]; rfl), hB⟩
    · have hj1 : 0 < (j : Int) := by omega
      have hnext : Hid (digs (f + 1) j acc = digs f (j / 10) (by1 (48 + ((j % 10 : Nat) : Int)) :: acc)) := Lib.hid (digs_step hj)
      have hm : (48 + (j : Int) % 10) % 256 = 48 + (j : Int) % 10 := by omega
      obtain ⟨f', rfl⟩ : ∃ f', f = f' + 1 := ⟨f - 1, by omega⟩
      go_wp2
      go_roundw
      case rel => exact ⟨j / 10, f', by1 (48 + ((j % 10 : Nat) : Int)) :: acc, by omega, by simp; omega, by go_num, str_app (by rw [by1_dig _ (by omega)]; rfl), by rw [← hnext.out]; exact hd, hB.alloc hB.size _⟩
      case measure => simp [intOf]; omega

/-! ### a copy -/
theorem infoStr : (Try.prog.info? 9).map (fun i => (i.zero, i.size, i.bytes)) = some (some (.string ⟨#[]⟩), 1, 16) := by kernel_rfl
theorem toStringS_any (A : Option Addr) (n c : Nat) (zs : List (List UInt8)) (w : World) (hn : zs.length = n) (hm : n ≤ 1048576) (hr : Rd w 1 A n (zs.flatMap cS)) :
    Calls Try.prog 77 #[.slice A n c] w fun e w' => ∃ g, e = .returned (.slice (some ⟨g, 0, none⟩) n n) ∧ w'.ownsRow w.heap.size 9 1 (.slice (some ⟨g, 0, none⟩) n n) n (zs.flatMap cS) ∧ Below w.heap.size w w' := by
  subst hn
  obtain ⟨i0, hi, hz0, hz1, hz2⟩ := info_parts infoStr
  go_enter Try.func77, Try.ntmps77
  go_wp2_with (with_reducible refine wpList_make_full _ rfl (.tmp 6) (.tmp 6) 35 rfl w.heap.size 9 i0 (.string ⟨#[]⟩) 1 Try.underlying35 hi hz0 hz1 .i64 .i64 (zs.length : Int) (zs.length : Int) zs.length rfl rfl rfl rfl (by rw [hz2]; omega) (by unfold maxLen; omega) (Nat.le_refl _) ?_; intro w1 hown1 hg1)
  have hB1 : Below w.heap.size w w1 := (Below.refl _ _).grown hg1 (Nat.le_refl _) (by simp)
  rw [Nat.mul_one] at hown1
  have hown2 : w1.ownsRow w.heap.size 9 1 (.slice (some ⟨w.heap.size, 0, none⟩) zs.length zs.length) zs.length ((zs.take 0 ++ List.replicate (zs.length - 0) []).flatMap cS) := by
    have e : (madeCells (Value.string ⟨#[]⟩).cells zs.length).toList = (zs.take 0 ++ List.replicate (zs.length - 0) []).flatMap cS := by
      rw [show (Value.string ⟨#[]⟩).cells = #[.string ⟨#[]⟩] from rfl, toList_madeCells_one, replicate_flat cS (z := []) rfl]
      simp
    rw [← e]
    exact hown1
  clear hown1 hg1
  go_loopw [4] (fun i wr => ∃ k : Nat, k ≤ zs.length ∧ i = .int .i64 k ∧ wr.ownsRow w.heap.size 9 1 (.slice (some ⟨w.heap.size, 0, none⟩) zs.length zs.length) zs.length ((zs.take k ++ List.replicate (zs.length - k) []).flatMap cS) ∧ Below w.heap.size w wr) (fun i _ => zs.length - (intOf i).toNat)
  case atStart => exact ⟨0, Nat.zero_le _, rfl, hown2, hB1⟩
  case round =>
    obtain ⟨k, hk, rfl, hown, hB⟩ := hrel
    clear hown2 hB1
    by_cases hlt : k < zs.length
    · obtain ⟨b, o, rfl, hb, hc⟩ := (hr.below hB).str rfl hlt
      have hold := hown.cellAt k (by omega)
      have hlen : (zs.take k ++ List.replicate (zs.length - k) []).length = zs.length := by simp; omega
      have hget := flatMap_get cS 1 cS_len (zs.take k ++ List.replicate (zs.length - k) []) k 0 (by omega) (by omega)
      rw [Nat.mul_one, Nat.add_zero] at hget
      have hcell : wr.cell? ⟨w.heap.size, k, none⟩ = some (.string ⟨((zs.take k ++ List.replicate (zs.length - k) [])[k]'(by omega)).toArray⟩) := hold.trans hget
      generalize (zs.take k ++ List.replicate (zs.length - k) [])[k] = old at hcell
      have hfr := hown.frozenAt k
      have hst := hown.stored k (.string ⟨zs[k].toArray⟩)
      rw [flatMap_set1 cS cS_len (r := zs[k]) rfl, take_rep_set hlt] at hst
      have hst' := Lib.hid hst
      clear hold hget hown hst hlen
      go_wp2
      go_roundw
      case rel => exact ⟨k + 1, by omega, by go_num, hst'.out.1, hB.grown hst'.out.2 hB.size (by simp)⟩
      case measure => simp [intOf]; omega
    · obtain rfl : k = zs.length := by omega
      rw [List.take_length, Nat.sub_self, List.replicate_zero, List.append_nil] at hown
      go_wp2
      go_ret
      exact ⟨w.heap.size, rfl, hown, hB⟩

/-! ### equality -/
theorem eqStringS_any (A B : Option Addr) (n m c d : Nat) (zs ys : List (List UInt8)) (w : World) (hn : zs.length = n) (hm : ys.length = m) (hb : n ≤ 4611686018427387904) (hb' : m ≤ 4611686018427387904) (hr : Rd w 1 A n (zs.flatMap cS)) (hs : Rd w 1 B m (ys.flatMap cS)) :
    Calls Try.prog 72 #[.slice A n c, .slice B m d] w fun e w' => e = .returned (.bool (decide (zs = ys))) ∧ Below w.heap.size w w' := by
  subst hn
  subst hm
  by_cases hl : zs.length = ys.length
  · have hl2 : zs.length ≤ ys.length ∧ ys.length ≤ zs.length := by omega
    have hl3 : ((zs.length : Int) != ys.length) = false := by simp; omega
    have HL := Lib.hid hl
    clear hl
    go_enter Try.func72, Try.ntmps72
    go_wp2_with fail
    go_loopw [5] (fun i wr => ∃ k : Nat, k ≤ zs.length ∧ i = .int .i64 k ∧ Hid (zs.take k = ys.take k) ∧ Below w.heap.size w wr) (fun i _ => zs.length - (intOf i).toNat)
    case atStart => exact ⟨0, Nat.zero_le _, rfl, rfl, Below.refl _ _⟩
    case round =>
      obtain ⟨k, hk, rfl, heq, hB⟩ := hrel
      by_cases hlt : k < zs.length
      · have hlt2 : k < ys.length := by omega
        obtain ⟨b, o, rfl, _, hc⟩ := (hr.below hB).str rfl hlt
        obtain ⟨b', o', rfl, _, hc'⟩ := (hs.below hB).str rfl hlt2
        have k0 : (0 : Int) ≤ k := by omega
        have k1 : (k : Int) < zs.length := by omega
        have k2 : (k : Int) < ys.length := by omega
        by_cases hx : zs[k] = ys[k]
        · have hx' : (zs[k] == ys[k]) = true := by simp [hx]
          have hnext : Hid (zs.take (k + 1) = ys.take (k + 1)) := Lib.hid (by
            rw [List.take_succ_eq_append_getElem hlt, List.take_succ_eq_append_getElem hlt2, heq.out, hx])
          clear hx
          go_wp2_with fail
          go_quiet (fail)
          go_wp2
          go_roundw
          case rel => exact ⟨k + 1, by omega, by go_num, hnext.out, below_drewN hB _⟩
          case measure => simp [intOf]; omega
        · have hx' : (zs[k] == ys[k]) = false := by simp [hx]
          have hne : Hid (decide (zs = ys) = false) := Lib.hid (decide_eq_false fun e => hx (by subst e; rfl))
          clear hx
          go_wp2_with fail
          go_quiet (fail)
          go_wp2
          go_ret
          exact ⟨ret_bool hne.out.symm, below_drewN hB _⟩
      · obtain rfl : k = zs.length := by omega
        have hyes : Hid (decide (zs = ys) = true) := Lib.hid (decide_eq_true (by have := heq.out; rwa [List.take_length, HL.out, List.take_length] at this))
        go_wp2
        go_ret
        exact ⟨ret_bool hyes.out.symm, hB⟩
  · have hno : Hid (decide (zs = ys) = false) := Lib.hid (decide_eq_false fun e => hl (by rw [e]))
    have hl' : ((zs.length : Int) != ys.length) = true := by simp; omega
    clear hl
    go_enter Try.func72, Try.ntmps72
    go_wp2
    go_ret
    exact ⟨ret_bool hno.out.symm, Below.refl _ _⟩

/-! ### marks -/
def marksS (k : Int) (n : Nat) : List (List UInt8) := (List.range n).map fun (i : Nat) => markT (k + (i : Int))
theorem marksS_len (k : Int) (n : Nat) : (marksS k n).length = n := by simp [marksS]
theorem marksS_get (k : Int) (n i : Nat) (h : i < (marksS k n).length) : (marksS k n)[i] = markT (k + i) := by simp [marksS]
theorem marksS_step {xs : List Value} {k : Int} {i : Nat} (hi : i < xs.length) : ((marksS k i).flatMap cS ++ xs.drop i).set i (.string ⟨(markT (k + i)).toArray⟩) = (marksS k (i + 1)).flatMap cS ++ xs.drop (i + 1) := by
  have hl : ((marksS k i).flatMap cS).length = i := by rw [flatMap_length cS 1 cS_len, marksS_len, Nat.mul_one]
  rw [List.set_append_right _ _ (by omega), hl, Nat.sub_self, List.drop_eq_getElem_cons hi, List.set_cons_zero]
  unfold marksS
  rw [List.range_succ, List.map_append, List.flatMap_append, List.append_assoc]
  rfl
theorem marksS_cell {xs : List Value} {k : Int} {i : Nat} (hi : i < xs.length) : ((marksS k i).flatMap cS ++ xs.drop i)[i]? = some xs[i] := by
  have hl : ((marksS k i).flatMap cS).length = i := by rw [flatMap_length cS 1 cS_len, marksS_len, Nat.mul_one]
  rw [List.getElem?_append_right (by omega), hl, Nat.sub_self, List.getElem?_drop, Nat.add_zero, List.getElem?_eq_getElem hi]
theorem grown_below {a b c : World} {row : Option Nat} (h : a.grownBy b row) (k : Below b.heap.size b c) : a.grownBy c row :=
  ⟨k.os.trans h.os, k.tape.trans h.tape, k.output.trans h.output, Nat.le_trans h.size k.size, fun i hi hne => (k.block i (Nat.lt_of_lt_of_le hi h.size)).trans (h.block i hi hne)⟩

theorem markStringS_any (base : Nat) (A : Option Addr) (n c : Nat) (xs : List Value) (k : Int) (w : World) (hk0 : 1 ≤ k) (hk1 : k ≤ 2305843009213693952) (hm : n ≤ 2305843009213693952) (hown : w.ownsRow base 9 1 (.slice A n c) n xs) :
    Calls Try.prog 73 #[.slice A n c, .int .i64 k] w fun e w' => e = .returned (.int .i64 (k + n)) ∧ w'.ownsRow base 9 1 (.slice A n c) n ((marksS k n).flatMap cS) ∧ w.grownBy w' (A.map (·.block)) := by
  have hxl : xs.length = n := by have := hown.1; omega
  have hxl' : xs.length ≤ n ∧ n ≤ xs.length := by omega
  clear hxl
  go_enter Try.func73, Try.ntmps73
  go_wp2_with fail
  go_loopw [1, 5] (fun q i wr => ∃ j : Nat, j ≤ n ∧ i = .int .i64 j ∧ q = .int .i64 (k + j) ∧ wr.ownsRow base 9 1 (.slice A n c) n ((marksS k j).flatMap cS ++ xs.drop j) ∧ w.grownBy wr (A.map (·.block))) (fun _ i _ => n - (intOf i).toNat)
  case atStart => exact ⟨0, Nat.zero_le _, rfl, by simp, by simpa [marksS] using hown, World.grownBy.refl _ _⟩
  case round =>
    obtain ⟨j, hj, rfl, rfl, hown', hg⟩ := hrel
    clear hown
    by_cases hlt : j < n
    · have hjx : j < xs.length := by omega
      have hAg : ∃ g, A = some ⟨g, 0, none⟩ := by
        rcases hown'.2 with ⟨_, h0⟩ | ⟨g, cap, cur, hv, _⟩
        · omega
        · simp only [Value.slice.injEq, true_and] at hv
          exact ⟨g, hv.1⟩
      obtain ⟨g, rfl⟩ := hAg
      go_wp2_with fail
      refine (markText_any _ _ (by omega) (by omega)).mono ?_
      rintro e w1 ⟨rfl, hb1⟩
      have hown1 := own_below hown' hb1
      have hg1 := grown_below hg hb1
      have hcell : w1.cell? ⟨g, j, none⟩ = some xs[j] := (hown1.cellAt j (by omega)).trans (marksS_cell hjx)
      have hfr := hown1.frozenAt j
      have hst := hown1.stored j (.string ⟨(markT (k + j)).toArray⟩)
      rw [marksS_step hjx] at hst
      have hst' := Lib.hid hst
      clear hown' hst hg hown1
      generalize xs[j] = old at hcell
      go_wp2
      go_roundw
      case rel => exact ⟨j + 1, by omega, by go_num, by go_num, hst'.out.1, grown_trans' hg1 hst'.out.2⟩
      case measure => simp [intOf]; omega
    · obtain rfl : j = n := by omega
      rw [List.drop_of_length_le (by omega), List.append_nil] at hown'
      go_wp2
      go_ret
      exact ⟨rfl, hown', hg⟩

theorem heldStringS_any (A : Option Addr) (n c : Nat) (k : Int) (w : World) (hk0 : 1 ≤ k) (hk1 : k ≤ 2305843009213693952) (hm : n ≤ 2305843009213693952) (hr : Rd w 1 A n ((marksS k n).flatMap cS)) :
    Calls Try.prog 74 #[.slice A n c, .int .i64 k] w fun e w' => e = .returned (.int .i64 (k + n)) ∧ Below w.heap.size w w' := by
  go_enter Try.func74, Try.ntmps74
  go_wp2_with fail
  go_loopw [1, 5] (fun q i wr => ∃ j : Nat, j ≤ n ∧ i = .int .i64 j ∧ q = .int .i64 (k + j) ∧ Below w.heap.size w wr) (fun _ i _ => n - (intOf i).toNat)
  case atStart => exact ⟨0, Nat.zero_le _, rfl, by simp, Below.refl _ _⟩
  case round =>
    obtain ⟨j, hj, rfl, rfl, hB⟩ := hrel
    by_cases hlt : j < n
    · have hlm : j < (marksS k n).length := by rw [marksS_len]; exact hlt
      have hr' := hr.below hB
      obtain ⟨b, o, rfl, hbl, hc⟩ := hr'.str (marksS_len k n) hlm
      rw [marksS_get] at hc
      have k0 : (0 : Int) ≤ j := by omega
      have k1 : (j : Int) < n := by omega
      go_wp2_with fail
      go_region_held3 (fun wx => Below wr.heap.size wr wx ∧ wx.cell? ⟨b, o + j, none⟩ = some (.string ⟨(markT (k + j)).toArray⟩)) (first | exact ⟨(Below.refl _ _).drew, hc⟩ | exact held_step hbl hc (by assumption) (by assumption)) (first | (go_at_call 82; refine (markText_any _ _ (by omega) (by omega)).mono ?_; rintro e w' ⟨rfl, hb⟩))
      all_goals
        rename_i hHeld
        have hB2 := below_step hB hHeld.1
        clear hHeld
        go_wp2
        go_roundw
        case rel => exact ⟨j + 1, by omega, by go_num, by go_num, hB2⟩
        case measure => simp [intOf]; omega
    · obtain rfl : j = n := by omega
      go_wp2
      go_ret
      exact ⟨rfl, hB⟩
end Go.Proofs.Ytimlddibaffjoaa
