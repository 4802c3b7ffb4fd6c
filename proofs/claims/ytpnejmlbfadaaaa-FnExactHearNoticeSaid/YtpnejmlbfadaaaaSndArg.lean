/- An argument that is a sender of commands: opened, its size, its copy, equality of equal ones, marks. No condition. -/
import Derived.Test.YtpnejmlbfadaaaaSentRow
namespace Go.Proofs.Ytpnejmlbfadaaaa
open Go.RowKit Go.ChangeShapes

theorem open_Sender {H : Type} {enc : TypeId × Value → H} {w : World} {held : Bool} {fuel : Nat} {cs : List Value} {x : DataW H × List MemPlace}
    (h : DataW.trod enc Try.prog w 0 (fun _ => true) held fuel 63 cs = some x) :
    ∃ (a b d : Int) (A : Option Addr) (n cp : Nat) (rs : List ESent), cs = [.int .i64 a, .int .i64 b, .slice A n cp, .int .i64 d] ∧ I64 a ∧ I64 b ∧ I64 d ∧ rs.length = n ∧ n ≤ cp ∧ cp ≤ maxLen ∧ Rd w 2 A n (rs.flatMap cSent) ∧ ∀ r ∈ rs, wfSent r := by
  obtain ⟨hlen, m, hf⟩ := trod_fields Try.underlying63 h
  have hC : Try.prog.cellsOf 63 = 4 := by kernel_rfl
  rw [hC] at hlen
  obtain ⟨y0, e0⟩ := hf 0 3 0 1 (by kernel_rfl)
  obtain ⟨y1, e1⟩ := hf 1 3 1 1 (by kernel_rfl)
  obtain ⟨y2, e2⟩ := hf 2 61 2 1 (by kernel_rfl)
  obtain ⟨y3, e3⟩ := hf 3 3 3 1 (by kernel_rfl)
  match cs, hlen with
  | [c0, c1, c2, c3], _ =>
    obtain ⟨a, ea, wa⟩ := el_int Try.underlying3 e0
    obtain ⟨b, eb, wb⟩ := el_int Try.underlying3 e1
    obtain ⟨d, ed, wd⟩ := el_int Try.underlying3 e3
    obtain ⟨A, n, cp, rs, ec, hn, hnc, hcm, hr, hwf⟩ := open_slice_of cSent wfSent 2 cSent_len Try.underlying61 (by kernel_rfl) (by decide) (fun _ _ _ hh => el_Sent hh) e2
    simp [cI] at ea eb ec ed
    subst ea eb ec ed
    exact ⟨a, b, d, A, n, cp, rs, rfl, wa, wb, wd, hn, hnc, hcm, hr, hwf⟩

theorem szSender_any (a b d : Int) (A : Option Addr) (n cp : Nat) (zs : List ESent) (left : Int) (w : World) (hn : zs.length = n) (hm : n ≤ 9223372036854775807) (h0 : 0 ≤ left) (h1 : left ≤ 1048576) (hT : ∀ z ∈ zs, Txt z.f1) (hr : Rd w 2 A n (zs.flatMap cSent)) :
    Calls Try.prog 44 #[.agg #[.int .i64 a, .int .i64 b, .slice A n cp, .int .i64 d], .int .i64 left] w fun e w' => ∃ q : Int, e = .returned (.int .i64 q) ∧ -1 ≤ q ∧ q ≤ left ∧ (0 ≤ q → n ≤ 1048576) ∧ Below w.heap.size w w' := by
  go_enter Try.func44, Try.ntmps44
  go_wp2_with fail
  refine (szSentS_any _ _ _ zs _ _ hn hm (by omega) (by omega) hT (hr.alloc _)).mono ?_
  rintro e w1 ⟨q, rfl, hq0, hq1, hq2, hb1⟩
  have hB := ((Below.refl _ _).alloc (Nat.le_refl _) _).trans (hb1.mono (by simp))
  by_cases hq : q < 0
  · go_wp2
    go_ret
    exact ⟨-1, rfl, by omega, by omega, by omega, hB⟩
  · go_wp2
    go_ret
    exact ⟨q, rfl, hq0, hq1, hq2, hB⟩

theorem toSender_any (a b d : Int) (A : Option Addr) (n cp : Nat) (zs : List ESent) (w : World) (hn : zs.length = n) (hm : n ≤ 1048576) (hr : Rd w 2 A n (zs.flatMap cSent)) :
    Calls Try.prog 46 #[.agg #[.int .i64 a, .int .i64 b, .slice A n cp, .int .i64 d]] w fun e w' => ∃ g, e = .returned (.agg #[.int .i64 a, .int .i64 b, .slice (some ⟨g, 0, none⟩) n n, .int .i64 d]) ∧ w'.ownsRow w.heap.size 80 2 (.slice (some ⟨g, 0, none⟩) n n) n (zs.flatMap cSent) ∧ Below w.heap.size w w' := by
  go_enter Try.func46, Try.ntmps46
  go_wp2_with fail
  refine (toSentS_any _ _ _ zs _ hn hm (((hr.alloc _).alloc _).alloc _)).mono ?_
  rintro e w1 ⟨g, rfl, hown1, hb1⟩
  obtain ⟨hc, hf⟩ := bcell hb1
  have hz := hb1.size
  simp only [World.size_alloc] at hz hown1
  go_wp2
  refine bodyPost_ret (v := .agg #[.int .i64 a, .int .i64 b, .slice (some ⟨g, 0, none⟩) n n, .int .i64 d]) (by simp [results, Try.results46, go_sem, hc]) rfl ⟨g, rfl, ?_, ?_⟩
  · refine own_base (base' := w.heap.size + 1 + 1 + 1) ?_ (by omega)
    repeat refine ownsRow_setCell_below ?_ (by simp) _
    exact hown1
  · repeat refine Below.setCell ?_ (by simp only []; omega) _
    exact ((((Below.refl _ _).alloc (Nat.le_refl _) _).alloc (by simp) _).alloc (by simp; omega) _).trans (hb1.mono (by simp; omega))

theorem eqSender_same (a b d : Int) (A B : Option Addr) (n m cp dp : Nat) (zs : List ESent) (w : World) (hn : zs.length = n) (hm : zs.length = m) (hb : n ≤ 1048577) (hr : Rd w 2 A n (zs.flatMap cSent)) (hs : Rd w 2 B m (zs.flatMap cSent)) :
    Calls Try.prog 47 #[.agg #[.int .i64 a, .int .i64 b, .slice A n cp, .int .i64 d], .agg #[.int .i64 a, .int .i64 b, .slice B m dp, .int .i64 d]] w fun e w' => e = .returned (.bool true) ∧ Below w.heap.size w w' := by
  go_enter Try.func47, Try.ntmps47
  go_wp2_with fail
  refine (eqSentS_same _ _ _ _ _ _ zs _ hn hm (by omega) ((hr.alloc _).alloc _) ((hs.alloc _).alloc _)).mono ?_
  rintro e w1 ⟨rfl, hb1⟩
  obtain ⟨hc, hf⟩ := bcell hb1
  have hz := hb1.size
  simp only [World.size_alloc] at hz
  go_wp2
  go_ret
  exact ⟨rfl, (((Below.refl _ _).alloc (Nat.le_refl _) _).alloc (by simp) _).trans (hb1.mono (by simp; omega))⟩

theorem markSender_any (base : Nat) (a b d : Int) (A : Option Addr) (n cp : Nat) (xs : List Value) (k : Int) (w : World) (hk0 : 1 ≤ k) (hk1 : k ≤ 1152921504606846976) (hm : n ≤ 1048577) (hbase : base ≤ w.heap.size) (hown : w.ownsRow base 80 2 (.slice A n cp) n xs) :
    Calls Try.prog 49 #[.agg #[.int .i64 a, .int .i64 b, .slice A n cp, .int .i64 d], .int .i64 k] w fun e w' => e = .returned (.int .i64 (k + 2 * n)) ∧ w'.ownsRow base 80 2 (.slice A n cp) n ((marksSent k n).flatMap cSent) ∧ Below base w w' ∧ w.grownBy w' (A.map (·.block)) := by
  have hown0 := own_below hown ((Below.refl w.heap.size w).alloc (Nat.le_refl _) (.cells #[.int .i64 a, .int .i64 b, .slice A n cp, .int .i64 d] 39))
  go_enter Try.func49, Try.ntmps49
  go_wp2_with fail
  refine (markSentS_any base _ _ _ xs _ _ hk0 hk1 hm hown0).mono ?_
  rintro e w1 ⟨rfl, hown1, hg1⟩
  go_wp2
  go_ret
  exact ⟨rfl, hown1, below_of_own hown (grownBy_of_alloc hg1) hbase, grownBy_of_alloc hg1⟩

theorem heldSender_any (a b d : Int) (A : Option Addr) (n cp : Nat) (k : Int) (w : World) (hk0 : 1 ≤ k) (hk1 : k ≤ 1152921504606846976) (hm : n ≤ 1048577) (hr : Rd w 2 A n ((marksSent k n).flatMap cSent)) :
    Calls Try.prog 50 #[.agg #[.int .i64 a, .int .i64 b, .slice A n cp, .int .i64 d], .int .i64 k] w fun e w' => e = .returned (.int .i64 (k + 2 * n)) ∧ Below w.heap.size w w' := by
  go_enter Try.func50, Try.ntmps50
  go_wp2_with fail
  refine (heldSentS_any _ _ _ _ _ hk0 hk1 hm (hr.alloc _)).mono ?_
  rintro e w1 ⟨rfl, hb1⟩
  go_wp2
  go_ret
  exact ⟨rfl, ((Below.refl _ _).alloc (Nat.le_refl _) _).trans (hb1.mono (by simp))⟩
end Go.Proofs.Ytpnejmlbfadaaaa
