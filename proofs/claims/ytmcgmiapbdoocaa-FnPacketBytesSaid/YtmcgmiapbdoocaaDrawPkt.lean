/- Contracts of the draws of packets. No condition. -/
import Derived.Test.YtmcgmiapbdoocaaPick
import Derived.Test.YtmcgmiapbdoocaaFrmTf
namespace Go.Proofs.Ytmcgmiapbdoocaa
open Go.RowKit

theorem l01Below_big (g : Nat) (A : Option Addr) (n c : Nat) (zs : List UInt8) (m : Int) (w : World) (hm0 : 257 ≤ m) (hm1 : m ≤ 4294967296) (hn : zs.length = n) (hm : n ≤ 9223372036854775806) (hr : Rd w 1 A n (zs.flatMap cB)) (hne : 0 < n → ∀ b o, A = some ⟨b, o, none⟩ → b ≠ g) (hC : Cur w g A n c) :
    Calls Try.prog 33 #[.pointer (some ⟨g, 0, none⟩), .int .i64 m] w fun e w' => ∃ x : Int, e = .returned (.int .i64 x) ∧ 0 ≤ x ∧ x ≤ m - 1 ∧ Cur w' g A n c ∧ w.grownBy w' (some g) := by
  go_enter Try.func33, Try.ntmps33
  go_wp2_with fail
  refine (l01Byte_any g A n c zs _ hn hm hr hne hC).mono ?_
  rintro e w1 ⟨x, rfl, hx0, hx1, hC1, hg1⟩
  go_wp2_with fail
  refine (l01Byte_any g A n c zs _ hn hm (rd_grown hr hg1 hne) hne hC1).mono ?_
  rintro e w2 ⟨y, rfl, hy0, hy1, hC2, hg2⟩
  have hg12 := grown_trans' hg1 hg2
  clear hg1 hg2 hC1
  go_wp2_with fail
  refine (l01Byte_any g A n c zs _ hn hm (rd_grown hr hg12 hne) hne hC2).mono ?_
  rintro e w3 ⟨z, rfl, hz0, hz1, hC3, hg3⟩
  have hg13 := grown_trans' hg12 hg3
  clear hg12 hg3 hC2
  go_wp2_with fail
  refine (l01Byte_any g A n c zs _ hn hm (rd_grown hr hg13 hne) hne hC3).mono ?_
  rintro e w4 ⟨v, rfl, hv0, hv1, hC4, hg4⟩
  have hg14 := grown_trans' hg13 hg4
  clear hg13 hg4 hC3 hr hne
  go_wp2
  go_ret
  have h0 := Int.emod_nonneg (x * 16777216 + y * 65536 + z * 256 + v) (b := m) (by omega)
  have h1 := Int.emod_lt_of_pos (x * 16777216 + y * 65536 + z * 256 + v) (b := m) (by omega)
  exact ⟨_, rfl, h0, by omega, hC4, hg14⟩

theorem l03Packet_any (g : Nat) (A : Option Addr) (n c : Nat) (zs : List UInt8) (w : World) (hn : zs.length = n) (hm : n ≤ 9223372036854775806) (hr : Rd w 1 A n (zs.flatMap cB)) (hne : 0 < n → ∀ b o, A = some ⟨b, o, none⟩ → b ≠ g) (hC : Cur w g A n c) :
    Calls Try.prog 34 #[.pointer (some ⟨g, 0, none⟩)] w fun e w' => ∃ x : EPacket, e = .returned (.agg #[.int .i64 x.f0, .int .i64 x.f1, .string ⟨(x.f2).toArray⟩]) ∧ pkOk x = true ∧ x.f0 ≤ 14 ∧ Cur w' g A n c ∧ w.grownBy w' (some g) := by
  have hgl := hC.lt
  have hq0 : w.heap.size ≠ g := by omega
  go_enter Try.func34, Try.ntmps34
  go_wp2_with fail
  refine (l01Below_any g A n c zs 15 _ (by omega) (by omega) hn hm (hr.alloc _) hne (hC.allocs _)).mono ?_
  rintro e w1 ⟨a, rfl, ha0, ha1, hC1, hg1⟩
  have hz1 : w.heap.size + 1 ≤ w1.heap.size := by have := hg1.size; simp at this; omega
  have hb1 : w1.heap[w.heap.size]? = some (.cells #[.int .i64 0, .int .i64 0, .string ⟨#[]⟩] 32 (0, 0)) := heap_grown hg1 (heap_new _ _) hq0
  have hG1 : w.grownBy w1 (some g) := grown_trans' (grown_under (grown_refl _ _) ((Below.refl _ _).alloc (Nat.le_refl _) _)) hg1
  clear hg1
  go_wp2_with fail
  refine (l01Below_big g A n c zs 65536 _ (by omega) (by omega) hn hm (rd_grown hr hG1 hne) hne hC1).mono ?_
  rintro e w2 ⟨b, rfl, hb0, hb1', hC2, hg2⟩
  have hz2 := hg2.size
  have hb2 := heap_grown hg2 hb1 hq0
  have hG2 := grown_trans' hG1 hg2
  clear hg2 hC1 hG1 hb1
  have hq2 : w2.heap.size ≠ g := by omega
  go_wp2_with fail
  refine (l01PickInt_any g A n c zs (some ⟨w2.heap.size, 0, none⟩) 5 5 [0, 1, 5, 20, 40] _ rfl (by omega) (by omega) (rd_litI _ _ (by simp) [0, 1, 5, 20, 40] _ _ 5 rfl) (fun b o e => by cases e; exact hq2) hn hm ((rd_grown hr hG2 hne).alloc _) hne (hC2.allocs _)).mono ?_
  rintro e w3 ⟨k, rfl, hk, hC3, hg3⟩
  have hz3 : w2.heap.size + 1 ≤ w3.heap.size := by have := hg3.size; simp at this; omega
  have hb3 := heap_grown hg3 (heap_alloc _ hb2) hq0
  have hG3 : w.grownBy w3 (some g) := grown_trans' (grown_under hG2 ((Below.refl _ _).alloc (by omega) _)) hg3
  clear hg3 hC2 hG2 hb2
  have hk2 : ∃ m : Nat, k = (m : Int) ∧ m ≤ 40 := by
    simp at hk
    exact ⟨k.toNat, by omega, by omega⟩
  obtain ⟨m, rfl, hm40⟩ := hk2
  clear hk
  go_wp2_with fail
  refine (l01Bytes_any g A n c zs m _ (by omega) hn hm (rd_grown hr hG3 hne) hne hC3).mono ?_
  rintro e w4 ⟨l, rfl, hl, hC4, hg4⟩
  have hz4 := hg4.size
  have hb4 := heap_grown hg4 hb3 hq0
  have hG4 := grown_trans' hG3 hg4
  clear hg4 hC3 hG3 hb3
  have hlt : w.heap.size < w4.heap.size := by omega
  have x0 : w4.cell? ⟨w.heap.size, 0, none⟩ = some (.int .i64 0) := cell_of_row _ _ 0 _ _ _ hb4
  have x1 : w4.cell? ⟨w.heap.size, 1, none⟩ = some (.int .i64 0) := cell_of_row _ _ 1 _ _ _ hb4
  have x2 : w4.cell? ⟨w.heap.size, 2, none⟩ = some (.string ⟨#[]⟩) := cell_of_row _ _ 2 _ _ _ hb4
  have x9 := frozen_row hb4
  clear hb4 hr hne
  go_wp2
  refine bodyPost_ret (v := .agg #[.int .i64 a, .int .i64 b, .string ⟨l.toArray⟩]) (by simp [results, Try.results34, go_sem, ↓cell_some, x0, x1, x2]) rfl ⟨⟨a, b, l⟩, rfl, ?_, by simp only; omega, ?_, ?_⟩
  · unfold pkOk
    simp only
    rw [inB_mk (by omega) (by omega), inB_mk (by omega) (by omega), decide_eq_true (by omega)]
    rfl
  · refine hC4.under (B := w.heap.size) ?_ hgl
    repeat (first | exact Below.refl _ _ | refine Below.setCell ?_ (by simp <;> omega) _)
  · refine grown_under hG4 ?_
    repeat (first | exact Below.refl _ _ | refine Below.setCell ?_ (by simp <;> omega) _)

/-- Drawn packets: valid, none idle. -/
def DrawnPks (ps : List EPacket) : Prop := ∀ x ∈ ps, pkOk x = true ∧ x.f0 ≤ 14
theorem pks_snoc {ps : List EPacket} {x : EPacket} (h : DrawnPks ps) (h1 : pkOk x = true) (h2 : x.f0 ≤ 14) : DrawnPks (ps ++ [x]) := by
  intro y hy
  rcases List.mem_append.1 hy with h' | h'
  · exact h y h'
  · rw [List.mem_singleton.1 h']; exact ⟨h1, h2⟩
theorem drawPackets_any (A : Option Addr) (n c : Nat) (zs : List UInt8) (w : World) (hn : zs.length = n) (hm : n ≤ 1048576) (hr : Rd w 1 A n (zs.flatMap cB)) :
    Calls Try.prog 8 #[.slice A n c] w fun e w' => ∃ (os : List EPacket) (B : Option Addr) (d : Nat), e = .returned (.slice B os.length d) ∧ w'.ownsRow w.heap.size 32 3 (.slice B os.length d) os.length (os.flatMap cPacket) ∧ DrawnPks os ∧ 1 ≤ os.length ∧ os.length ≤ 7 ∧ Below w.heap.size w w' := by
  have hne : 0 < n → ∀ b o, A = some ⟨b, o, none⟩ → b ≠ w.heap.size := by
    intro h0 b o hA hb
    obtain ⟨b', o', e, hlt, _⟩ := hr.2 h0
    rw [hA] at e
    cases e
    omega
  go_enter Try.func8, Try.ntmps8
  go_wp2_with fail
  refine (l01New_any A n c zs _ hn hm hr).mono ?_
  rintro e w1 ⟨rfl, hC1, hb1⟩
  have hl1 := hC1.lt
  have hz1 := hb1.size
  go_wp2_with fail
  have hown0 := own_fresh w1 w1.heap.size w1.heap.size 32 3 rfl (Nat.le_refl _)
  have hB1 := hb1.alloc hz1 (.cells #[] 32)
  have hC1' := hC1.allocs (.cells #[] 32)
  have hz2 : w1.heap.size < (w1.alloc (.cells #[] 32)).heap.size := by simp
  generalize w1.alloc (.cells #[] 32) = w2 at hown0 hB1 hC1' hz2 ⊢
  refine (l01Below_any w.heap.size A n c zs 7 _ (by omega) (by omega) hn (by omega) (hr.below hB1) hne hC1').mono ?_
  rintro e w3 ⟨x, rfl, hx0, hx1, hC3, hg3⟩
  have hz3 := hg3.size
  have hown3 := own_grown hown0 hg3 (fun b h1 h2 => by simp at h1 h2; omega)
  have hB3 := hB1.grown hg3 hB1.size (fun k hk => by cases hk; exact Nat.le_refl _)
  clear hC1 hC1' hb1 hown0 hg3 hB1
  go_wp2
  go_loopw [4, 5] (fun v k wr => ∃ (os : List EPacket) (B : Option Addr) (d : Nat) (m : Int), v = .slice B os.length d ∧ k = .int .i64 m ∧ 0 ≤ m ∧ os.length + m = x + 1 ∧ wr.ownsRow w1.heap.size 32 3 (.slice B os.length d) os.length (os.flatMap cPacket) ∧ Hid (DrawnPks os) ∧ Cur wr w.heap.size A n c ∧ Below w.heap.size w wr ∧ w1.heap.size ≤ wr.heap.size) (fun _ k _ => (intOf k).toNat)
  case atStart => exact ⟨[], _, _, 1 + x, rfl, rfl, by omega, by simp; omega, hown3, Lib.hid (fun o ho => by cases ho), hC3, hB3, by omega⟩
  case round =>
    obtain ⟨os, B, d, m, rfl, rfl, hm0, hm1, hown, hD, hC, hB, hzr⟩ := hrel
    by_cases hlt : 0 < m
    · skip
      go_wp2_with fail
      refine (l03Packet_any w.heap.size A n c zs _ hn (by omega) (hr.below hB) hne hC).mono ?_
      rintro e w5 ⟨y, rfl, hok, hq0, hC5, hg5⟩
      have hz5 := hg5.size
      have hown5 := own_grown hown hg5 (fun b h1 h2 => by have := own_row hown b h1; cases h2; omega)
      have hB5 := hB.grown hg5 hB.size (fun k hk => by cases hk; exact Nat.le_refl _)
      have hsz : w1.heap.size ≤ w5.heap.size := by omega
      have hD5 := Lib.hid (pks_snoc hD.out hok hq0)
      clear hC hg5 hown hB hok hD hown3 hC3 hB3
      go_wp2_with (at_builtin; refine wpList_append1 _ rfl (.tmp 16) (.tmp 19) 24 rfl 32 (.agg #[.int .i64 0, .int .i64 0, .string ⟨#[]⟩]) 3 32 Try.underlying24 infoPacket rfl (by decide) w1.heap.size _ _ _ _ rfl hown5 [.int .i64 y.f0, .int .i64 y.f1, .string ⟨(y.f2).toArray⟩] _ rfl rfl rfl (by simp [Value.oneCell']) (by omega) hsz ?_; intro g6 c6 w6 hown6 _ hb6)
      have hz6 := hb6.size
      go_roundw
      case rel => exact ⟨os ++ [y], some ⟨g6, 0, none⟩, c6, m - 1, by simp, by go_num, by omega, by simp; omega, by simpa [cPacket] using hown6, hD5, hC5.under hb6 (by omega), hB5.trans (hb6.mono (by omega)), by omega⟩
      case measure => simp [intOf]; omega
    · go_wp2
      go_ret
      exact ⟨os, B, d, rfl, own_base hown (by omega), hD.out, by omega, by omega, hB⟩
end Go.Proofs.Ytmcgmiapbdoocaa
