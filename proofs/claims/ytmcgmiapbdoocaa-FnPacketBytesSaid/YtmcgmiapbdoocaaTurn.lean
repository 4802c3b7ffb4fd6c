/- Contract: a text with one byte turned. No condition. -/
import Derived.Test.YtmcgmiapbdoocaaBase
import Derived.Test.YtmcgmiapbdoocaaOpen
import Derived.Test.YtmcgmiapbdoocaaRelBox
import Derived.StillTailTactics
import Derived.Laws.IdiomStrings
import Derived.Laws.BitsAllLaws
namespace Go.Proofs.Ytmcgmiapbdoocaa
open Go.RowKit

/-- A text's bytes as a new row. -/
theorem bytes_new (P : Program) (w : World) (src dst e : TypeId) (l : List UInt8) (hs : P.underlying src = some .string) (hd : P.underlying dst = some (.slice e)) (he : P.underlying e = some (.int .u8)) :
    ∃ cp W1, (convert src dst (.string ⟨l.toArray⟩)).run P w = .ok (.slice (some ⟨w.heap.size, 0, none⟩) l.length cp) W1 ∧ Below w.heap.size w W1 ∧ (∀ j (hj : j < l.length), W1.cell? ⟨w.heap.size, j, none⟩ = some (.int .u8 (num l[j]))) ∧ (∀ j, j < l.length → W1.frozen? ⟨w.heap.size, j, none⟩ = false) ∧ w.heap.size < W1.heap.size := by
  have h := run_bytes_of_string (P := P) w src dst e ⟨l.toArray⟩ hs hd he
  have hsz : (ByteArray.mk l.toArray).size = l.length := by simp [ByteArray.size]
  rw [hsz] at h
  have hh : (w.drew.alloc (.cells (bytesRow ⟨l.toArray⟩ (grownCap w l.length 0 e)) e ((bytesRow ⟨l.toArray⟩ (grownCap w l.length 0 e)).size, (bytesRow ⟨l.toArray⟩ (grownCap w l.length 0 e)).size + 1))).heap[w.heap.size]? = some (.cells (bytesRow ⟨l.toArray⟩ (grownCap w l.length 0 e)) e ((bytesRow ⟨l.toArray⟩ (grownCap w l.length 0 e)).size, (bytesRow ⟨l.toArray⟩ (grownCap w l.length 0 e)).size + 1)) := by
    show (w.heap.push _)[w.heap.size]? = _
    simp
  refine ⟨_, _, h, ((Below.refl _ _).drew).alloc (Nat.le_refl _) _, fun j hj => ?_, fun j hj => ?_, by simp⟩
  · rw [cell_of_row _ _ j _ _ _ hh]
    unfold bytesRow
    rw [Array.getElem?_append_left (by simp; omega)]
    simp [hj, num]
  · have hlen : l.length ≤ (bytesRow ⟨l.toArray⟩ (grownCap w l.length 0 e)).size := by simp [bytesRow]
    unfold World.frozen?
    rw [hh]
    simp
    omega

theorem xor_turn {a b : Int} (ha0 : 0 ≤ a) (ha1 : a ≤ 255) (hb0 : 1 ≤ b) (hb1 : b ≤ 255) : 0 ≤ bits .xor .u8 a b ∧ bits .xor .u8 a b ≤ 255 ∧ bits .xor .u8 a b ≠ a := by
  obtain ⟨x, rfl⟩ := Int.eq_ofNat_of_zero_le ha0
  obtain ⟨y, rfl⟩ := Int.eq_ofNat_of_zero_le (show 0 ≤ b by omega)
  have e : bits .xor .u8 (x : Int) (y : Int) = ((x ^^^ y : Nat) : Int) := by
    rw [u8_xor _ _ (by omega) (by omega) (by omega) (by omega)]
    simp
  have hlt : x ^^^ y < 2 ^ 8 := Nat.xor_lt_two_pow (by omega) (by omega)
  rw [e]
  refine ⟨by omega, by omega, fun h => ?_⟩
  have h1 : x ^^^ y = x := by omega
  have h2 : x ^^^ (x ^^^ y) = 0 := by rw [h1, Nat.xor_self]
  rw [← Nat.xor_assoc, Nat.xor_self, Nat.zero_xor] at h2
  omega
theorem conv_at (P : Program) (w : World) (src e dst : TypeId) (hs : P.underlying src = some (.slice e)) (he : P.underlying e = some (.int .u8)) (hd : P.underlying dst = some .string) (l : List UInt8) (q n c : Nat) (hn : l.length = n)
    (hc : ∀ i (hi : i < l.length), w.cell? ⟨q, i, none⟩ = some (.int .u8 (num l[i]))) : (convert src dst (.slice (some ⟨q, 0, none⟩) n c)).run P w = .ok (.string ⟨l.toArray⟩) w := by
  subst hn
  have h := run_convert_bytes_arg (P := P) w src e hs he q 0 l.length c (l.map num) (by simp) (fun i hi => by
    have hi' : i < l.length := by simpa using hi
    rw [Nat.zero_add, hc i hi']
    simp [hi']) dst hd
  rw [h]
  have key : ((l.map num).map fun n => UInt8.ofNat n.toNat) = l := by
    rw [List.map_map]
    conv => rhs; rw [← List.map_id l]
    exact List.map_congr_left (fun b _ => by1_num b)
  show Result.ok (Value.string ⟨((l.map num).map fun n => UInt8.ofNat n.toNat).toArray⟩) _ = _
  rw [key]
theorem set_cells {w : World} {l : List UInt8} {q j : Nat} {y : Int} (hj : j < l.length) (hy0 : 0 ≤ y) (hy1 : y ≤ 255) (hc : ∀ i (hi : i < l.length), w.cell? ⟨q, i, none⟩ = some (.int .u8 (num l[i]))) :
    ∀ i (hi : i < (l.set j (by1 y)).length), ((w.setCell ⟨q, j, none⟩ (.int .u8 y)).drew).cell? ⟨q, i, none⟩ = some (.int .u8 (num (l.set j (by1 y))[i])) := by
  intro i hi
  have hi' : i < l.length := by simpa using hi
  show (w.setCell ⟨q, j, none⟩ (.int .u8 y)).cell? ⟨q, i, none⟩ = _
  by_cases hij : i = j
  · subst hij
    rw [World.cell?_setCell_same' _ _ _ (by rw [hc i hi']; rfl)]
    simp only [List.getElem_set_self]
    rw [num_by1 y hy0 hy1]
  · have hij' : ¬ j = i := fun e => hij e.symm
    rw [World.cell?_setCell_other _ _ _ _ (by simp <;> omega), hc i hi']
    simp [hij']
set_option maxRecDepth 100000 in
theorem turn_any (l : List UInt8) (k n : Int) (w : World) (h0 : 0 < l.length) (hl : Txt l) (hk0 : 0 ≤ k) (_hk1 : k ≤ 255) (hn0 : 0 ≤ n) (_hn1 : n ≤ 255) :
    Calls Try.prog 29 #[.string ⟨l.toArray⟩, .int .i64 k, .int .i64 n] w fun e w' => ∃ (j : Nat) (y : UInt8) (hj : j < l.length), y ≠ l[j] ∧ e = .returned (.string ⟨(l.set j y).toArray⟩) ∧ Below w.heap.size w w' := by
  unfold Txt at hl
  obtain ⟨cp, W1, hcv, hB1, hcell, hfro, hsz⟩ := bytes_new Try.prog w _ _ _ l Try.underlying9 Try.underlying22 Try.underlying5
  have hj1 : k.tmod l.length = k % l.length := Int.tmod_eq_emod_of_nonneg hk0
  have hj2 := Int.emod_nonneg k (b := (l.length : Int)) (by omega)
  have hj3 := Int.emod_lt_of_pos k (b := (l.length : Int)) (by omega)
  have hm1 : n.tmod 255 = n % 255 := Int.tmod_eq_emod_of_nonneg hn0
  obtain ⟨j, hj⟩ := Int.eq_ofNat_of_zero_le hj2
  rw [hj] at hj1 hj2 hj3
  have hjl : j < l.length := by omega
  have hc := hcell j hjl
  have hf := hfro j hjl
  clear hfro hj
  have HC := Lib.hid hcell
  clear hcell
  go_enter Try.func29, Try.ntmps29
  go_wp2
  clear hcv
  have hz : ¬ l = [] := fun e => by rw [e] at h0; exact absurd h0 (by decide)
  go_still_tail 18, (by kernel_rfl)
  have hb0 := num_lo l[j]
  have hb1 := num_hi l[j]
  have hx := xor_turn hb0 hb1 (show 1 ≤ 1 + n % 255 by omega) (show 1 + n % 255 ≤ 255 by omega)
  have hcv2 := conv_at Try.prog _ _ _ _ Try.underlying22 Try.underlying5 Try.underlying9 _ w.heap.size l.length cp (by simp) (set_cells hjl hx.1 hx.2.1 HC.out)
  have hne : by1 (bits .xor .u8 (num l[j]) (1 + n % 255)) ≠ l[j] := fun e => hx.2.2 ((num_by1 _ hx.1 hx.2.1).symm.trans (congrArg num e))
  have HN := Lib.hid hne
  clear hne
  go_wp2
  go_ret
  exact ⟨j, _, hjl, HN.out, rfl, (hB1.setCell (by simp) _).drew⟩
end Go.Proofs.Ytmcgmiapbdoocaa
