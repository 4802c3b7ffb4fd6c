/- Contracts: validity of a file's receiver, in the program and in the reference. No condition. -/
import Derived.Test.YtimlddibaffjoaaBase
import Derived.Test.YtimlddibaffjoaaOpen
import Derived.Test.YtimlddibaffjoaaStrs
namespace Go.Proofs.Ytimlddibaffjoaa
open Go.RowKit

def fiPre (a b c : Int) (n : Nat) : Bool := inB a 0 7 && inB b (-1) 600 && inB c (-1) 65535 && ((b == -1) == (c == -1)) && ((n : Int) == 25)
def shortAll (zs : List (List UInt8)) : Bool := zs.all fun p => decide (p.length ≤ 24)
def fiOk (a b c : Int) (zs : List (List UInt8)) : Bool := fiPre a b c zs.length && shortAll zs
theorem short_take {zs : List (List UInt8)} {k : Nat} (hk : k < zs.length) (h : shortAll (zs.take k) = true) (h1 : zs[k].length ≤ 24) : shortAll (zs.take (k + 1)) = true := by
  unfold shortAll at h ⊢
  rw [List.take_succ_eq_append_getElem hk, List.all_append, h]
  simp [h1]
theorem short_fail {zs : List (List UInt8)} {k : Nat} (hk : k < zs.length) (h1 : 24 < zs[k].length) : shortAll zs = false := by
  unfold shortAll
  rw [List.all_eq_false]
  exact ⟨zs[k], List.getElem_mem hk, by simp; omega⟩

theorem fileInOk_any (a b c : Int) (A : Option Addr) (n cp : Nat) (zs : List (List UInt8)) (w : World) (hn : zs.length = n) (hb : n ≤ 1048576) (hwf : ∀ r ∈ zs, Txt r) (hr : Rd w 1 A n (zs.flatMap cS)) :
    Calls Try.prog 46 #[.agg #[.int .i64 a, .int .i64 b, .int .i64 c, .slice A n cp]] w fun e w' => e = .returned (.bool (fiOk a b c zs)) ∧ Below w.heap.size w w' := by
  subst hn
  cases h : fiPre a b c zs.length
  · have hc := Lib.hid (show fiOk a b c zs = false by unfold fiOk; rw [h]; rfl)
    have hk := Lib.hid h
    clear h
    go_enter Try.func46, Try.ntmps46
    go_wp2_with (go_at_call 66; refine (between_any _ _ _ _).mono ?_; rintro e w' ⟨rfl, rfl⟩)
    all_goals first
      | (go_ret; exact ⟨ret_bool hc.out.symm, (Below.refl _ _).alloc (Nat.le_refl _) _⟩)
      | (exfalso; have h9 := hk.out; clear hk hc; simp_all [fiPre] <;> omega)
  · have hc := Lib.hid (show fiOk a b c zs = shortAll zs by unfold fiOk; rw [h]; rfl)
    simp only [fiPre, Bool.and_eq_true] at h
    obtain ⟨⟨⟨⟨h1, h2⟩, h3⟩, h4⟩, h5⟩ := h
    have h5' : (zs.length : Int) = 25 := by simpa using h5
    have h6 : ((zs.length : Int) != 25) = false := by simp; omega
    have h4' : (b == -1) = (c == -1) := by simpa using h4
    have hle : zs.length ≤ 25 := by omega
    clear h5 h4 h5'
    have hr' := hr.alloc (.cells #[.int .i64 a, .int .i64 b, .int .i64 c, .slice A zs.length cp] 37)
    go_enter Try.func46, Try.ntmps46
    go_wp2_with (go_at_call 66; refine (between_any _ _ _ _).mono ?_; rintro e w' ⟨rfl, rfl⟩)
    go_loop [37] (fun i => ∃ k : Nat, k ≤ zs.length ∧ i = .int .i64 k ∧ Hid (shortAll (zs.take k) = true)) (fun i => zs.length - (intOf i).toNat)
    case atStart => exact ⟨0, Nat.zero_le _, rfl, rfl⟩
    case round =>
      obtain ⟨k, hk, rfl, hall⟩ := hrel
      by_cases hlt : k < zs.length
      · obtain ⟨b0, o0, rfl, _, hcl⟩ := hr'.str rfl hlt
        have htx : zs[k].length ≤ 9223372036854775807 := hwf _ (List.getElem_mem hlt)
        by_cases h24 : zs[k].length ≤ 24
        · have hnext := Lib.hid (short_take hlt hall.out h24)
          go_wp2
          go_round
          case rel => exact ⟨k + 1, by omega, by go_num, hnext.out⟩
          case measure => simp [intOf]; omega
        · have hf := Lib.hid (short_fail hlt (by omega))
          go_wp2
          go_ret
          exact ⟨ret_bool (by rw [hc.out, hf.out]), (Below.refl _ _).alloc (Nat.le_refl _) _⟩
      · obtain rfl : k = zs.length := by omega
        have hf := Lib.hid (show shortAll zs = true by have := hall.out; rwa [List.take_length] at this)
        go_wp2
        go_ret
        exact ⟨ret_bool (by rw [hc.out, hf.out]), (Below.refl _ _).alloc (Nat.le_refl _) _⟩

theorem sFileInOk_any (a b c : Int) (A : Option Addr) (n cp : Nat) (zs : List (List UInt8)) (w : World) (hn : zs.length = n) (hb : n ≤ 1048576) (hwf : ∀ r ∈ zs, Txt r) (hr : Rd w 1 A n (zs.flatMap cS)) :
    Calls Try.prog 44 #[.agg #[.int .i64 a, .int .i64 b, .int .i64 c, .slice A n cp]] w fun e w' => e = .returned (.bool (fiOk a b c zs)) ∧ Below w.heap.size w w' := by
  subst hn
  have hr' := hr.alloc (.cells #[.int .i64 a, .int .i64 b, .int .i64 c, .slice A zs.length cp] 37)
  go_enter Try.func44, Try.ntmps44
  go_wp2_with fail
  go_loop [3] (fun i => ∃ k : Nat, k ≤ zs.length ∧ i = .int .i64 k ∧ Hid (shortAll (zs.take k) = true)) (fun i => zs.length - (intOf i).toNat)
  case atStart => exact ⟨0, Nat.zero_le _, rfl, rfl⟩
  case round =>
    obtain ⟨k, hk, rfl, hall⟩ := hrel
    by_cases hlt : k < zs.length
    · obtain ⟨b0, o0, rfl, _, hcl⟩ := hr'.str rfl hlt
      have htx : zs[k].length ≤ 9223372036854775807 := hwf _ (List.getElem_mem hlt)
      by_cases h24 : zs[k].length ≤ 24
      · have hnext := Lib.hid (short_take hlt hall.out h24)
        go_wp2
        go_round
        case rel => exact ⟨k + 1, by omega, by go_num, hnext.out⟩
        case measure => simp [intOf]; omega
      · have hf := Lib.hid (short_fail hlt (by omega))
        go_wp2
        go_ret
        exact ⟨ret_bool (by unfold fiOk; rw [hf.out, Bool.and_false]), (Below.refl _ _).alloc (Nat.le_refl _) _⟩
    · obtain rfl : k = zs.length := by omega
      have hc := Lib.hid (show fiOk a b c zs = fiPre a b c zs.length by unfold fiOk; have := hall.out; rw [List.take_length] at this; rw [this, Bool.and_true])
      go_wp2_with (go_at_call 65; refine (l01In_any _ _ _ _).mono ?_; rintro e w' ⟨rfl, rfl⟩)
      all_goals
        go_ret
        refine ⟨ret_bool (Eq.trans ?_ hc.out.symm), (Below.refl _ _).alloc (Nat.le_refl _) _⟩
        clear hc
        unfold fiPre
        simp_all
end Go.Proofs.Ytimlddibaffjoaa
