/- Contract of the statements' copy of a list of texts. No condition. -/
import Derived.Test.YtimlddibaffjoaaBase
import Derived.Test.YtimlddibaffjoaaOpen
namespace Go.Proofs.Ytimlddibaffjoaa
open Go.RowKit

/-! ### a copy -/
theorem infoStr : (Try.prog.info? 9).map (fun i => (i.zero, i.size, i.bytes)) = some (some (.string ⟨#[]⟩), 1, 16) := by kernel_rfl
theorem toStringS_any (A : Option Addr) (n c : Nat) (zs : List (List UInt8)) (w : World) (hn : zs.length = n) (hm : n ≤ 1048576) (hr : Rd w 1 A n (zs.flatMap cS)) :
    Calls Try.prog 77 #[.slice A n c] w fun e w' => ∃ g, e = .returned (.slice (some ⟨g, 0, none⟩) n n) ∧ w'.ownsRow w.heap.size 9 1 (.slice (some ⟨g, 0, none⟩) n n) n (zs.flatMap cS) ∧ Below w.heap.size w w' := by
  subst hn
  obtain ⟨i0, hi, hz0, hz1, hz2⟩ := info_parts infoStr
  go_enter Try.func77, Try.ntmps77
  go_wp2_with (with_reducible refine wpList_make_full _ rfl (.tmp 6) (.tmp 6) 35 rfl w.heap.size 9 i0 (.string ⟨#[]⟩) 1 Try.underlying35 hi hz0 hz1 .i64 .i64 (zs.length : Int) (zs.length : Int) zs.length rfl rfl rfl rfl (by rw [hz2]; omega) (by unfold maxLen; omega) (Nat.le_refl _) ?_; intro w1 hown1 hg1)
  have hB1 : Below w.heap.size w w1 := (Below.refl _ _).grown hg1 (Nat.le_refl _) (by simp)
  rw [Nat.mul_one] at hown1
  have hown2 : w1.ownsRow w.heap.size 9 1 (.slice (some ⟨w.heap.size, 0, none⟩) zs.length zs.length) zs.length ((zs.take 0 ++ List.replicate (zs.length - 0) []).flatMap cS) := by
    have e : (madeCells (Value.string ⟨#[]⟩).cells zs.length).toList = (zs.take 0 ++ List.replicate (zs.length - 0) []).flatMap cS := by
      rw [show (Value.string ⟨#[]⟩).cells = #[.string ⟨#[]⟩] from rfl, toList_madeCells_one, replicate_flat cS (z := []) rfl]
      simp
    rw [← e]
    exact hown1
  clear hown1 hg1
  go_loopw [4] (fun i wr => ∃ k : Nat, k ≤ zs.length ∧ i = .int .i64 k ∧ wr.ownsRow w.heap.size 9 1 (.slice (some ⟨w.heap.size, 0, none⟩) zs.length zs.length) zs.length ((zs.take k ++ List.replicate (zs.length - k) []).flatMap cS) ∧ Below w.heap.size w wr) (fun i _ => zs.length - (intOf i).toNat)
  case atStart => exact ⟨0, Nat.zero_le _, rfl, hown2, hB1⟩
  case round =>
    obtain ⟨k, hk, rfl, hown, hB⟩ := hrel
    clear hown2 hB1
    by_cases hlt : k < zs.length
    · obtain ⟨b, o, rfl, hb, hc⟩ := (hr.below hB).str rfl hlt
      have hold := hown.cellAt k (by omega)
      have hlen : (zs.take k ++ List.replicate (zs.length - k) []).length = zs.length := by simp; omega
      have hget := flatMap_get cS 1 cS_len (zs.take k ++ List.replicate (zs.length - k) []) k 0 (by omega) (by omega)
      rw [Nat.mul_one, Nat.add_zero] at hget
      have hcell : wr.cell? ⟨w.heap.size, k, none⟩ = some (.string ⟨((zs.take k ++ List.replicate (zs.length - k) [])[k]'(by omega)).toArray⟩) := hold.trans hget
      generalize (zs.take k ++ List.replicate (zs.length - k) [])[k] = old at hcell
      have hfr := hown.frozenAt k
      have hst := hown.stored k (.string ⟨zs[k].toArray⟩)
      rw [flatMap_set1 cS cS_len (r := zs[k]) rfl, take_rep_set hlt] at hst
      have hst' := Lib.hid hst
      clear hold hget hown hst hlen
      go_wp2
      go_roundw
      case rel => exact ⟨k + 1, by omega, by go_num, hst'.out.1, hB.grown hst'.out.2 hB.size (by simp)⟩
      case measure => simp [intOf]; omega
    · obtain rfl : k = zs.length := by omega
      rw [List.take_length, Nat.sub_self, List.replicate_zero, List.append_nil] at hown
      go_wp2
      go_ret
      exact ⟨w.heap.size, rfl, hown, hB⟩

end Go.Proofs.Ytimlddibaffjoaa
