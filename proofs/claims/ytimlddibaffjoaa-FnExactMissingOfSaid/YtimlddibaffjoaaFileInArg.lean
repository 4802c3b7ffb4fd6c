/- An argument that is a receiver of a file: opened, its size, its copy. No condition. -/
import Derived.Test.YtimlddibaffjoaaBase
import Derived.Test.YtimlddibaffjoaaOpen
import Derived.Test.YtimlddibaffjoaaStrs
import Derived.Test.YtimlddibaffjoaaStrCopy
namespace Go.Proofs.Ytimlddibaffjoaa
open Go.RowKit Go.ChangeShapes

theorem open_FileIn {H : Type} {enc : TypeId × Value → H} {w : World} {held : Bool} {fuel : Nat} {cs : List Value} {x : DataW H × List MemPlace}
    (h : DataW.trod enc Try.prog w 0 (fun _ => true) held fuel 49 cs = some x) :
    ∃ (a b c : Int) (A : Option Addr) (n cp : Nat) (rs : List (List UInt8)), cs = [.int .i64 a, .int .i64 b, .int .i64 c, .slice A n cp] ∧ I64 a ∧ I64 b ∧ I64 c ∧ rs.length = n ∧ n ≤ cp ∧ cp ≤ maxLen ∧ Rd w 1 A n (rs.flatMap cS) ∧ ∀ r ∈ rs, Txt r := by
  obtain ⟨hlen, m, hf⟩ := trod_fields Try.underlying49 h
  have hC : Try.prog.cellsOf 49 = 4 := by kernel_rfl
  rw [hC] at hlen
  obtain ⟨y0, e0⟩ := hf 0 3 0 1 (by kernel_rfl)
  obtain ⟨y1, e1⟩ := hf 1 3 1 1 (by kernel_rfl)
  obtain ⟨y2, e2⟩ := hf 2 3 2 1 (by kernel_rfl)
  obtain ⟨y3, e3⟩ := hf 3 35 3 1 (by kernel_rfl)
  match cs, hlen with
  | [c0, c1, c2, c3], _ =>
    obtain ⟨a, ea, wa⟩ := el_int Try.underlying3 e0
    obtain ⟨b, eb, wb⟩ := el_int Try.underlying3 e1
    obtain ⟨c, ec, wc⟩ := el_int Try.underlying3 e2
    obtain ⟨A, n, cp, rs, ed, hn, hnc, hcm, hr, hwf⟩ := open_slice_of cS Txt 1 cS_len Try.underlying35 (by kernel_rfl) (by decide) (fun _ _ _ hh => el_str Try.underlying9 hh) e3
    simp [cI] at ea eb ec ed
    subst ea eb ec ed
    exact ⟨a, b, c, A, n, cp, rs, rfl, wa, wb, wc, hn, hnc, hcm, hr, hwf⟩

/-- The size of a list of texts taken off; -1 where it is too great. -/
theorem szStringS_any (A : Option Addr) (n c : Nat) (zs : List (List UInt8)) (left : Int) (w : World) (hn : zs.length = n) (hm : n ≤ 9223372036854775807) (h0 : 0 ≤ left) (h1 : left ≤ 1048576) (hwf : ∀ r ∈ zs, Txt r) (hr : Rd w 1 A n (zs.flatMap cS)) :
    Calls Try.prog 76 #[.slice A n c, .int .i64 left] w fun e w' => ∃ q : Int, e = .returned (.int .i64 q) ∧ -1 ≤ q ∧ q ≤ left ∧ (0 ≤ q → zs.length ≤ 1048576) ∧ w = w' := by
  subst hn
  by_cases hbig : left - zs.length < 0
  · go_enter Try.func76, Try.ntmps76
    go_wp2
    go_ret
    exact ⟨-1, rfl, by omega, by omega, by omega, rfl⟩
  · go_enter Try.func76, Try.ntmps76
    go_wp2
    go_loop [1, 5] (fun q i => ∃ (k : Nat) (z : Int), k ≤ zs.length ∧ i = .int .i64 k ∧ q = .int .i64 z ∧ 0 ≤ z ∧ z ≤ left) (fun _ i => zs.length - (intOf i).toNat)
    case atStart => exact ⟨0, _, Nat.zero_le _, rfl, rfl, by omega, by omega⟩
    case round =>
      obtain ⟨k, z, hk, rfl, rfl, hz0, hz1⟩ := hrel
      by_cases hlt : k < zs.length
      · obtain ⟨b0, o0, rfl, _, hcl⟩ := hr.str rfl hlt
        have htx : zs[k].length ≤ 9223372036854775807 := hwf _ (List.getElem_mem hlt)
        by_cases hs : z - zs[k].length < 0
        · go_wp2
          go_ret
          exact ⟨-1, rfl, by omega, by omega, by omega, rfl⟩
        · go_wp2
          go_round
          case rel => exact ⟨k + 1, _, by omega, by go_num, rfl, by omega, by omega⟩
          case measure => simp [intOf]; omega
      · obtain rfl : k = zs.length := by omega
        go_wp2
        go_ret
        exact ⟨z, rfl, by omega, by omega, fun _ => by omega, rfl⟩

theorem szFileIn_any (a b c : Int) (A : Option Addr) (n cp : Nat) (zs : List (List UInt8)) (left : Int) (w : World) (hn : zs.length = n) (hm : n ≤ 9223372036854775807) (h0 : 0 ≤ left) (h1 : left ≤ 1048576) (hwf : ∀ r ∈ zs, Txt r) (hr : Rd w 1 A n (zs.flatMap cS)) :
    Calls Try.prog 43 #[.agg #[.int .i64 a, .int .i64 b, .int .i64 c, .slice A n cp], .int .i64 left] w fun e w' => ∃ q : Int, e = .returned (.int .i64 q) ∧ -1 ≤ q ∧ q ≤ left ∧ (0 ≤ q → zs.length ≤ 1048576) ∧ Below w.heap.size w w' := by
  go_enter Try.func43, Try.ntmps43
  go_wp2_with fail
  refine (szStringS_any _ _ _ zs _ _ hn hm h0 h1 hwf (hr.alloc _)).mono ?_
  rintro e w1 ⟨q, rfl, hq0, hq1, hq2, rfl⟩
  by_cases hq : q < 0
  · go_wp2
    go_ret
    exact ⟨-1, rfl, by omega, by omega, by omega, (Below.refl _ _).alloc (Nat.le_refl _) _⟩
  · go_wp2
    go_ret
    exact ⟨q, rfl, hq0, hq1, hq2, (Below.refl _ _).alloc (Nat.le_refl _) _⟩

theorem toFileIn_any (a b c : Int) (A : Option Addr) (n cp : Nat) (zs : List (List UInt8)) (w : World) (hn : zs.length = n) (hm : n ≤ 1048576) (hr : Rd w 1 A n (zs.flatMap cS)) :
    Calls Try.prog 45 #[.agg #[.int .i64 a, .int .i64 b, .int .i64 c, .slice A n cp]] w fun e w' => ∃ g, e = .returned (.agg #[.int .i64 a, .int .i64 b, .int .i64 c, .slice (some ⟨g, 0, none⟩) n n]) ∧ w'.ownsRow w.heap.size 9 1 (.slice (some ⟨g, 0, none⟩) n n) n (zs.flatMap cS) ∧ Below w.heap.size w w' := by
  go_enter Try.func45, Try.ntmps45
  go_wp2_with fail
  refine (toStringS_any _ _ _ zs _ hn hm (((hr.alloc _).alloc _).alloc _)).mono ?_
  rintro e w1 ⟨g, rfl, hown1, hb1⟩
  obtain ⟨hc, hf⟩ := bcell hb1
  have hz := hb1.size
  simp only [World.size_alloc] at hz hown1
  go_wp2
  refine bodyPost_ret (v := .agg #[.int .i64 a, .int .i64 b, .int .i64 c, .slice (some ⟨g, 0, none⟩) n n]) (by simp [results, Try.results45, go_sem, hc]) rfl ⟨g, rfl, ?_, ?_⟩
  · refine own_base (base' := w.heap.size + 1 + 1 + 1) ?_ (by omega)
    iterate 5 refine ownsRow_setCell_below ?_ (by simp) _
    exact hown1
  · iterate 5 refine Below.setCell ?_ (by simp only []; omega) _
    exact ((((Below.refl _ _).alloc (Nat.le_refl _) _).alloc (by simp) _).alloc (by simp; omega) _).trans (hb1.mono (by simp; omega))
end Go.Proofs.Ytimlddibaffjoaa
