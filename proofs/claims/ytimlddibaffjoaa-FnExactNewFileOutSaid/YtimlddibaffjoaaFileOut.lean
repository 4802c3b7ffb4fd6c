/- Contracts on senders of files: validity, equality of equal ones, a size taken off, a copy, an argument opened. No condition. -/
import Derived.Test.YtimlddibaffjoaaBase
import Derived.Test.YtimlddibaffjoaaOpen
import Derived.Test.YtimlddibaffjoaaSeg
import Derived.Test.YtimlddibaffjoaaMissing
import Derived.Test.YtimlddibaffjoaaInts
namespace Go.Proofs.Ytimlddibaffjoaa
open Go.RowKit Go.ChangeShapes

def foOk (f : Int) (d : List UInt8) (zs : List Int) : Bool := inB f 0 7 && decide ((d.length : Int) ≤ 600) && decide ((zs.length : Int) ≤ 1000) && allB zs (-1) (cseg d.length - 1)

theorem fileOutOk_any (f : Int) (d : List UInt8) (A : Option Addr) (n cp : Nat) (zs : List Int) (dn : Bool) (w : World) (hd : Txt d) (hn : zs.length = n) (hb : n ≤ 1048577) (hr : Rd w 1 A n (zs.flatMap cI)) :
    Calls Try.prog 50 #[.agg #[.int .i64 f, .string ⟨d.toArray⟩, .slice A n cp, .bool dn]] w fun e w' => e = .returned (.bool (foOk f d zs)) ∧ Below w.heap.size w w' := by
  subst hn
  unfold Txt at hd
  have g0 := cseg_lo d.length
  have g1 := cseg_hi d.length
  cases h1 : inB f 0 7
  · have hc := Lib.hid (show foOk f d zs = false by unfold foOk; rw [h1]; rfl)
    go_enter Try.func50, Try.ntmps50
    go_wp2_with (go_at_call 66; refine (between_any _ _ _ _).mono ?_; rintro e w' ⟨rfl, rfl⟩)
    go_ret
    exact ⟨ret_bool hc.out.symm, (Below.refl _ _).alloc (Nat.le_refl _) _⟩
  · by_cases h2 : 600 < (d.length : Int)
    · have hc := Lib.hid (show foOk f d zs = false by unfold foOk; rw [h1, decide_eq_false (by omega : ¬ (d.length : Int) ≤ 600)]; rfl)
      go_enter Try.func50, Try.ntmps50
      go_wp2_with (go_at_call 66; refine (between_any _ _ _ _).mono ?_; rintro e w' ⟨rfl, rfl⟩)
      go_ret
      exact ⟨ret_bool hc.out.symm, (Below.refl _ _).alloc (Nat.le_refl _) _⟩
    · by_cases h3 : 1000 < (zs.length : Int)
      · have hc := Lib.hid (show foOk f d zs = false by unfold foOk; rw [h1, decide_eq_true (by omega : (d.length : Int) ≤ 600), decide_eq_false (by omega : ¬ (zs.length : Int) ≤ 1000)]; rfl)
        go_enter Try.func50, Try.ntmps50
        go_wp2_with (go_at_call 66; refine (between_any _ _ _ _).mono ?_; rintro e w' ⟨rfl, rfl⟩)
        go_ret
        exact ⟨ret_bool hc.out.symm, (Below.refl _ _).alloc (Nat.le_refl _) _⟩
      · have hc := Lib.hid (show foOk f d zs = allB zs (-1) (cseg d.length - 1) by unfold foOk; rw [h1, decide_eq_true (by omega : (d.length : Int) ≤ 600), decide_eq_true (by omega : (zs.length : Int) ≤ 1000)]; rfl)
        have hr' := hr.alloc (.cells #[.int .i64 f, .string ⟨d.toArray⟩, .slice A zs.length cp, .bool dn] 58)
        have hw : IntKind.i64.wrap (cseg d.length - 1) = cseg d.length - 1 := IntWalk.i64_in _ (by omega)
        clear hr g0 g1
        go_enter Try.func50, Try.ntmps50
        go_wp2_with (go_at_call 66; refine (between_any _ _ _ _).mono ?_; rintro e w' ⟨rfl, rfl⟩)
        go_quiet ((first | (go_at_call 19; exact quiet_left (countSegments_any _ _)) | (go_at_call 75; exact quiet_left (allBetween_any _ _ _ zs _ _ _ rfl (by omega) (hr'.drewN _)))))
        go_wp2
        go_ret
        exact ⟨ret_bool hc.out.symm, below_drewN ((Below.refl _ _).alloc (Nat.le_refl _) _) _⟩

theorem sFileOutOk_any (f : Int) (d : List UInt8) (A : Option Addr) (n cp : Nat) (zs : List Int) (dn : Bool) (w : World) (hd : Txt d) (hn : zs.length = n) (hb : n ≤ 1048577) (hr : Rd w 1 A n (zs.flatMap cI)) :
    Calls Try.prog 48 #[.agg #[.int .i64 f, .string ⟨d.toArray⟩, .slice A n cp, .bool dn]] w fun e w' => e = .returned (.bool (foOk f d zs)) ∧ Below w.heap.size w w' := by
  subst hn
  unfold Txt at hd
  have g0 := cseg_lo d.length
  have g1 := cseg_hi d.length
  have hw : IntKind.i64.wrap (cseg d.length - 1) = cseg d.length - 1 := IntWalk.i64_in _ (by omega)
  clear g0 g1
  have hr' := hr.alloc (.cells #[.int .i64 f, .string ⟨d.toArray⟩, .slice A zs.length cp, .bool dn] 58)
  have hB0 : Below w.heap.size w (w.alloc (.cells #[.int .i64 f, .string ⟨d.toArray⟩, .slice A zs.length cp, .bool dn] 58)) := (Below.refl _ _).alloc (Nat.le_refl _) _
  have hcells : ∀ wr, Below (w.alloc (.cells #[.int .i64 f, .string ⟨d.toArray⟩, .slice A zs.length cp, .bool dn] 58)).heap.size (w.alloc (.cells #[.int .i64 f, .string ⟨d.toArray⟩, .slice A zs.length cp, .bool dn] 58)) wr → wr.cell? ⟨w.heap.size, 0, none⟩ = some (.int .i64 f) ∧ wr.cell? ⟨w.heap.size, 1, none⟩ = some (.string ⟨d.toArray⟩) ∧ wr.cell? ⟨w.heap.size, 2, none⟩ = some (.slice A zs.length cp) := fun wr h =>
    ⟨(h.cell (p := ⟨w.heap.size, 0, none⟩) (by simp)).trans (by simp [go_sem]), (h.cell (p := ⟨w.heap.size, 1, none⟩) (by simp)).trans (by simp [go_sem]), (h.cell (p := ⟨w.heap.size, 2, none⟩) (by simp)).trans (by simp [go_sem])⟩
  have HC := Lib.hid hcells
  clear hcells
  go_enter Try.func48, Try.ntmps48
  go_wp2_with fail
  generalize hWe : w.alloc (.cells #[.int .i64 f, .string ⟨d.toArray⟩, .slice A zs.length cp, .bool dn] 58) = W at hr' hB0 HC ⊢
  clear hWe hr
  go_loopw [3] (fun i wr => ∃ k : Nat, k ≤ zs.length ∧ i = .int .i64 k ∧ Hid (allB (zs.take k) (-1) (cseg d.length - 1) = true) ∧ Below W.heap.size W wr) (fun i _ => zs.length - (intOf i).toNat)
  case atStart => exact ⟨0, Nat.zero_le _, rfl, rfl, Below.refl _ _⟩
  case round =>
    obtain ⟨k, hk, rfl, hall, hB⟩ := hrel
    obtain ⟨x0, x1, x2⟩ := HC.out _ hB
    have hBw : Below w.heap.size w wr := hB0.trans (hB.mono hB0.size)
    by_cases hlt : k < zs.length
    · have k0 : (0 : Int) ≤ k := by omega
      have k1 : (k : Int) < zs.length := by omega
      obtain ⟨b0, o0, rfl, _, hcl⟩ := (hr'.below hB).int rfl hlt
      cases hin : inB zs[k] (-1) (cseg d.length - 1)
      · have hf := Lib.hid (allB_fail hlt hin)
        go_wp2_with fail
        go_quiet ((first | (go_at_call 18; exact quiet_left (sCountSegments_any _ _)) | (go_at_call 65; exact quiet_left (l01In_any _ _ _ _))))
        go_wp2
        go_ret
        exact ⟨ret_bool (by unfold foOk; rw [hf.out, Bool.and_false]), below_drewN hBw _⟩
      · have hnext := Lib.hid (allB_take hlt hall.out hin)
        go_wp2_with fail
        go_quiet ((first | (go_at_call 18; exact quiet_left (sCountSegments_any _ _)) | (go_at_call 65; exact quiet_left (l01In_any _ _ _ _))))
        go_wp2
        go_roundw
        case rel => exact ⟨k + 1, by omega, by go_num, hnext.out, below_drewN hB _⟩
        case measure => simp [intOf]; omega
    · obtain rfl : k = zs.length := by omega
      have hf := Lib.hid (show allB zs (-1) (cseg d.length - 1) = true by have := hall.out; rwa [List.take_length] at this)
      have hc : Hid (foOk f d zs = (inB f 0 7 && decide ((d.length : Int) ≤ 600) && decide ((zs.length : Int) ≤ 1000))) := Lib.hid (by unfold foOk; rw [hf.out, Bool.and_true])
      go_wp2_with (go_at_call 65; refine (l01In_any _ _ _ _).mono ?_; rintro e w' ⟨rfl, rfl⟩)
      all_goals
        go_ret
        refine ⟨ret_bool (Eq.trans ?_ hc.out.symm), hBw⟩
        clear hc hf HC hall
        simp_all <;> omega

theorem open_FileOut {H : Type} {enc : TypeId × Value → H} {w : World} {held : Bool} {fuel : Nat} {cs : List Value} {x : DataW H × List MemPlace}
    (h : DataW.trod enc Try.prog w 0 (fun _ => true) held fuel 55 cs = some x) :
    ∃ (f : Int) (d : List UInt8) (A : Option Addr) (n cp : Nat) (rs : List Int) (dn : Bool), cs = [.int .i64 f, .string ⟨d.toArray⟩, .slice A n cp, .bool dn] ∧ I64 f ∧ Txt d ∧ rs.length = n ∧ n ≤ cp ∧ cp ≤ maxLen ∧ Rd w 1 A n (rs.flatMap cI) ∧ ∀ r ∈ rs, I64 r := by
  obtain ⟨hlen, m, hf⟩ := trod_fields Try.underlying55 h
  have hC : Try.prog.cellsOf 55 = 4 := by kernel_rfl
  rw [hC] at hlen
  obtain ⟨y0, e0⟩ := hf 0 3 0 1 (by kernel_rfl)
  obtain ⟨y1, e1⟩ := hf 1 9 1 1 (by kernel_rfl)
  obtain ⟨y2, e2⟩ := hf 2 41 2 1 (by kernel_rfl)
  obtain ⟨y3, e3⟩ := hf 3 4 3 1 (by kernel_rfl)
  match cs, hlen with
  | [c0, c1, c2, c3], _ =>
    obtain ⟨a, ea, wa⟩ := el_int Try.underlying3 e0
    obtain ⟨b, eb, wb⟩ := el_str Try.underlying9 e1
    obtain ⟨A, n, cp, rs, ec, hn, hnc, hcm, hr, hwf⟩ := open_slice_of cI I64 1 cI_len Try.underlying41 (by kernel_rfl) (by decide) (fun _ _ _ hh => el_int Try.underlying3 hh) e2
    obtain ⟨dn, ed⟩ := el_bool Try.underlying4 e3
    simp [cI, cS] at ea eb ec ed
    subst ea eb ec ed
    exact ⟨a, b, A, n, cp, rs, dn, rfl, wa, wb, hn, hnc, hcm, hr, hwf⟩

theorem szFileOut_any (f : Int) (d : List UInt8) (A : Option Addr) (n cp : Nat) (dn : Bool) (left : Int) (w : World) (hd : Txt d) (hm : n ≤ 9223372036854775807) (h0 : 0 ≤ left) (h1 : left ≤ 1048576) :
    Calls Try.prog 47 #[.agg #[.int .i64 f, .string ⟨d.toArray⟩, .slice A n cp, .bool dn], .int .i64 left] w fun e w' => ∃ q : Int, e = .returned (.int .i64 q) ∧ -1 ≤ q ∧ q ≤ left ∧ (0 ≤ q → n ≤ 1048576 ∧ d.length ≤ 1048576) ∧ Below w.heap.size w w' := by
  unfold Txt at hd
  by_cases hbig : left - d.length < 0
  · go_enter Try.func47, Try.ntmps47
    go_wp2_with fail
    go_ret
    exact ⟨-1, rfl, by omega, by omega, by omega, (Below.refl _ _).alloc (Nat.le_refl _) _⟩
  · go_enter Try.func47, Try.ntmps47
    go_wp2_with fail
    refine (szIntS_any _ _ _ _ _ hm (by omega) (by omega)).mono ?_
    rintro e w1 ⟨q, rfl, hq0, hq1, hq2, rfl⟩
    by_cases hq : q < 0
    · go_wp2
      go_ret
      exact ⟨-1, rfl, by omega, by omega, by omega, (Below.refl _ _).alloc (Nat.le_refl _) _⟩
    · go_wp2
      go_ret
      exact ⟨q, rfl, hq0, by omega, fun hh => ⟨hq2 hh, by omega⟩, (Below.refl _ _).alloc (Nat.le_refl _) _⟩

theorem toFileOut_any (f : Int) (d : List UInt8) (A : Option Addr) (n cp : Nat) (dn : Bool) (zs : List Int) (w : World) (hn : zs.length = n) (hm : n ≤ 1048576) (hr : Rd w 1 A n (zs.flatMap cI)) :
    Calls Try.prog 49 #[.agg #[.int .i64 f, .string ⟨d.toArray⟩, .slice A n cp, .bool dn]] w fun e w' => ∃ g, e = .returned (.agg #[.int .i64 f, .string ⟨d.toArray⟩, .slice (some ⟨g, 0, none⟩) n n, .bool dn]) ∧ w'.ownsRow w.heap.size 3 1 (.slice (some ⟨g, 0, none⟩) n n) n (zs.flatMap cI) ∧ Below w.heap.size w w' := by
  go_enter Try.func49, Try.ntmps49
  go_wp2_with fail
  refine (toIntS_any _ _ _ zs _ hn hm (((hr.alloc _).alloc _).alloc _)).mono ?_
  rintro e w1 ⟨g, rfl, hown1, hb1⟩
  obtain ⟨hc, hf⟩ := bcell hb1
  have hz := hb1.size
  simp only [World.size_alloc] at hz hown1
  go_wp2
  refine bodyPost_ret (v := .agg #[.int .i64 f, .string ⟨d.toArray⟩, .slice (some ⟨g, 0, none⟩) n n, .bool dn]) (by simp [results, Try.results49, go_sem, hc]) rfl ⟨g, rfl, ?_, ?_⟩
  · refine own_base (base' := w.heap.size + 1 + 1 + 1) ?_ (by omega)
    repeat refine ownsRow_setCell_below ?_ (by simp) _
    exact hown1
  · repeat refine Below.setCell ?_ (by simp only []; omega) _
    exact ((((Below.refl _ _).alloc (Nat.le_refl _) _).alloc (by simp) _).alloc (by simp; omega) _).trans (hb1.mono (by simp; omega))

theorem eqFileOut_same (f : Int) (d : List UInt8) (A B : Option Addr) (n m cp dp : Nat) (zs : List Int) (dn : Bool) (w : World) (hn : zs.length = n) (hm : zs.length = m) (hb : n ≤ 1048577) (hr : Rd w 1 A n (zs.flatMap cI)) (hs : Rd w 1 B m (zs.flatMap cI)) :
    Calls Try.prog 51 #[.agg #[.int .i64 f, .string ⟨d.toArray⟩, .slice A n cp, .bool dn], .agg #[.int .i64 f, .string ⟨d.toArray⟩, .slice B m dp, .bool dn]] w fun e w' => e = .returned (.bool true) ∧ Below w.heap.size w w' := by
  go_enter Try.func51, Try.ntmps51
  go_wp2_with fail
  refine (eqIntS_any _ _ _ _ _ _ zs zs _ hn hm (by omega) (by omega) ((hr.alloc _).alloc _) ((hs.alloc _).alloc _)).mono ?_
  rintro e w1 ⟨rfl, hb1⟩
  obtain ⟨hc, hf⟩ := bcell hb1
  have hz := hb1.size
  simp only [World.size_alloc] at hz
  cases dn
  all_goals
    go_wp2
    go_ret
    exact ⟨rfl, (((Below.refl _ _).alloc (Nat.le_refl _) _).alloc (by simp) _).trans (hb1.mono (by simp; omega))⟩
end Go.Proofs.Ytimlddibaffjoaa
