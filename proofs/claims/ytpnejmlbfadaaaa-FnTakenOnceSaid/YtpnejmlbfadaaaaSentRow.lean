/- Rows of Sents: contracts of the statements' helpers. Written by a program of ours (rows.py). No condition. -/
import Derived.Test.YtpnejmlbfadaaaaBase
import Derived.Test.YtpnejmlbfadaaaaOpen
import Derived.Test.YtpnejmlbfadaaaaAppend
import Derived.Test.YtpnejmlbfadaaaaMarks
namespace Go.Proofs.Ytpnejmlbfadaaaa
open Go.RowKit

structure ESent where
  f0 : Int
  f1 : List UInt8
instance : Inhabited ESent := ⟨⟨0, []⟩⟩
def cSent (r : ESent) : List Value := [.int .i64 r.f0, .string ⟨r.f1.toArray⟩]
theorem cSent_len (r : ESent) : (cSent r).length = 2 := rfl
theorem cSent_one (r : ESent) : ∀ u ∈ cSent r, u.oneCell' = true := by intro u hu; simp only [cSent, List.mem_cons, List.not_mem_nil, or_false] at hu; rcases hu with rfl | rfl <;> rfl

def wfSent (r : ESent) : Prop := I64 r.f0 ∧ Txt r.f1
open Go.ChangeShapes in
theorem el_Sent {H : Type} {enc : TypeId × Value → H} {w : World} {held : Bool} {fuel : Nat} {cs : List Value} {x : DataW H × List MemPlace}
    (h : DataW.trod enc Try.prog w 0 (fun _ => true) held fuel 98 cs = some x) : ∃ r, cs = cSent r ∧ wfSent r := by
  obtain ⟨hlen, m, hf⟩ := trod_fields Try.underlying98 h
  have hC : Try.prog.cellsOf 98 = 2 := by kernel_rfl
  rw [hC] at hlen
  obtain ⟨y0, e0⟩ := hf 0 3 0 1 (by kernel_rfl)
  obtain ⟨y1, e1⟩ := hf 1 9 1 1 (by kernel_rfl)
  match cs, hlen with
  | [c0, c1], _ =>
    obtain ⟨a0, q0, w0⟩ := el_int Try.underlying3 e0
    obtain ⟨a1, q1, w1⟩ := el_str Try.underlying9 e1
    simp [cI, cS] at q0 q1
    subst q0 q1
    exact ⟨⟨a0, a1⟩, rfl, w0, w1⟩

theorem toSent_any (x0 : Int) (x1 : List UInt8) (w : World) :
    Calls Try.prog 86 #[.agg #[.int .i64 x0, .string ⟨x1.toArray⟩]] w fun e w' => e = .returned (.agg #[.int .i64 x0, .string ⟨x1.toArray⟩]) ∧ Below w.heap.size w w' := by
  go_enter Try.func86, Try.ntmps86
  go_wp2
  refine bodyPost_ret (v := .agg #[.int .i64 x0, .string ⟨x1.toArray⟩]) (by simp [results, Try.results86, go_sem]) rfl ⟨rfl, ?_⟩
  repeat (first | exact Below.refl _ _ | refine Below.setCell ?_ (by simp <;> omega) _ | refine Below.alloc ?_ (by simp <;> omega) _)
theorem eqSent_same (x0 : Int) (x1 : List UInt8) (w : World) :
    Calls Try.prog 87 #[.agg #[.int .i64 x0, .string ⟨x1.toArray⟩], .agg #[.int .i64 x0, .string ⟨x1.toArray⟩]] w fun e w' => e = .returned (.bool true) ∧ Below w.heap.size w w' := by
  go_enter Try.func87, Try.ntmps87
  go_wp2
  go_ret
  exact ⟨rfl, ((Below.refl _ _).alloc (Nat.le_refl _) _).alloc (by simp) _⟩
theorem szSent_any (x0 : Int) (x1 : List UInt8) (left : Int) (w : World) (hd : Txt x1) (h0 : 0 ≤ left) (h1 : left ≤ 1048576) :
    Calls Try.prog 85 #[.agg #[.int .i64 x0, .string ⟨x1.toArray⟩], .int .i64 left] w fun e w' => ∃ q : Int, e = .returned (.int .i64 q) ∧ -1 ≤ q ∧ q ≤ left ∧ (0 ≤ q → x1.length ≤ 1048576) ∧ Below w.heap.size w w' := by
  unfold Txt at hd
  by_cases hbig : left - x1.length < 0
  · go_enter Try.func85, Try.ntmps85
    go_wp2
    go_ret
    exact ⟨-1, rfl, by omega, by omega, by omega, (Below.refl _ _).alloc (Nat.le_refl _) _⟩
  · go_enter Try.func85, Try.ntmps85
    go_wp2
    go_ret
    exact ⟨_, rfl, by omega, by omega, fun _ => by omega, (Below.refl _ _).alloc (Nat.le_refl _) _⟩

/-! ### a copy -/
theorem infoSent : (Try.prog.info? 80).map (fun i => (i.zero, i.size, i.bytes)) = some (some (.agg #[.int .i64 0, .string ⟨#[]⟩]), 2, 24) := by kernel_rfl
theorem toSentS_any (A : Option Addr) (n c : Nat) (zs : List ESent) (w : World) (hn : zs.length = n) (hm : n ≤ 1048576) (hr : Rd w 2 A n (zs.flatMap cSent)) :
    Calls Try.prog 74 #[.slice A n c] w fun e w' => ∃ g, e = .returned (.slice (some ⟨g, 0, none⟩) n n) ∧ w'.ownsRow w.heap.size 80 2 (.slice (some ⟨g, 0, none⟩) n n) n (zs.flatMap cSent) ∧ Below w.heap.size w w' := by
  subst hn
  obtain ⟨i0, hi, hz0, hz1, hz2⟩ := info_parts infoSent
  go_enter Try.func74, Try.ntmps74
  go_wp2_with (with_reducible refine wpList_make_full _ rfl (.tmp 6) (.tmp 6) 37 rfl w.heap.size 80 i0 (.agg #[.int .i64 0, .string ⟨#[]⟩]) 2 Try.underlying37 hi hz0 hz1 .i64 .i64 (zs.length : Int) (zs.length : Int) zs.length rfl rfl rfl rfl (by rw [hz2]; omega) (by unfold maxLen; omega) (Nat.le_refl _) ?_; intro w1 hown1 hg1)
  have hB1 : Below w.heap.size w w1 := (Below.refl _ _).grown hg1 (Nat.le_refl _) (by simp)
  obtain ⟨R, hR⟩ : ∃ R, R = (madeCells (Value.agg #[.int .i64 0, .string ⟨#[]⟩]).cells (zs.length * 2)).toList := ⟨_, rfl⟩
  have hown2 : w1.ownsRow w.heap.size 80 2 (.slice (some ⟨w.heap.size, 0, none⟩) zs.length zs.length) zs.length ((zs.take 0).flatMap cSent ++ R.drop (0 * 2)) := by
    rw [hR]
    simpa using hown1
  have hRl : R.length = zs.length * 2 := by
    have := hown2.1
    simpa using this
  clear hown1 hg1 hR
  go_loopw [4] (fun i wr => ∃ k : Nat, k ≤ zs.length ∧ i = .int .i64 k ∧ wr.ownsRow w.heap.size 80 2 (.slice (some ⟨w.heap.size, 0, none⟩) zs.length zs.length) zs.length ((zs.take k).flatMap cSent ++ R.drop (k * 2)) ∧ Below w.heap.size w wr) (fun i _ => zs.length - (intOf i).toNat)
  case atStart => exact ⟨0, Nat.zero_le _, rfl, hown2, hB1⟩
  case round =>
    obtain ⟨k, hk, rfl, hown, hB⟩ := hrel
    clear hown2 hB1
    by_cases hlt : k < zs.length
    · obtain ⟨b, o, rfl, hb, hc⟩ := Rd.get cSent_len (hr.below hB) rfl hlt
      have hc0 : wr.cell? ⟨b, o + k * 2, none⟩ = some (.int .i64 zs[k].f0) := hc 0 _ (by omega) rfl
      have hc1 : wr.cell? ⟨b, o + k * 2 + 1, none⟩ = some (.string ⟨zs[k].f1.toArray⟩) := hc 1 _ (by omega) rfl
      go_wp2_with fail
      refine (toSent_any _ _ _).mono ?_
      rintro e w1 ⟨rfl, hb1⟩
      have hown1 := own_below hown hb1
      have hBn := below_step hB hb1
      have hPl : ((zs.take k).flatMap cSent).length = k * 2 := by rw [flatMap_length cSent 2 cSent_len, List.length_take_of_le (by omega)]
      have hd0 : w1.cell? ⟨w.heap.size, k * 2, none⟩ = some (R[k * 2]'(by omega)) := (hown1.cellAt (k * 2) (by omega)).trans (grow_get hPl (by omega) (by omega))
      have hf0 := hown1.frozenAt (k * 2)
      have hd1 : w1.cell? ⟨w.heap.size, k * 2 + 1, none⟩ = some (R[k * 2 + 1]'(by omega)) := (hown1.cellAt (k * 2 + 1) (by omega)).trans (grow_get hPl (by omega) (by omega))
      have hf1 := hown1.frozenAt (k * 2 + 1)
      have hs0 := (hown1).stored (k * 2) (.int .i64 zs[k].f0)
      rw [grow_set hPl (by omega)] at hs0
      have hs1 := (hs0.1).stored (k * 2 + 1) (.string ⟨zs[k].f1.toArray⟩)
      rw [grow_set (by simp only [List.length_append, List.length_cons, List.length_nil, hPl]) (by omega)] at hs1
      have hlist : (zs.take k).flatMap cSent ++ [.int .i64 zs[k].f0] ++ [.string ⟨zs[k].f1.toArray⟩] = (zs.take (k + 1)).flatMap cSent := by
        rw [flatMap_take cSent hlt]; simp only [List.append_assoc]; rfl
      rw [hlist, show k * 2 + 1 + 1 = (k + 1) * 2 from by omega] at hs1
      have hst := Lib.hid hs1.1
      have hgr := Lib.hid (grown_trans' (hs0.2) hs1.2)
      clear hown1 hown hlist hs0 hs1
      generalize R[k * 2]'_ = old0 at hd0
      generalize R[k * 2 + 1]'_ = old1 at hd1
      go_wp2
      go_roundw
      case rel => exact ⟨k + 1, by omega, by go_num, hst.out, hBn.grown hgr.out hBn.size (by simp)⟩
      case measure => simp [intOf]; omega
    · obtain rfl : k = zs.length := by omega
      rw [List.take_length, List.drop_of_length_le (by omega), List.append_nil] at hown
      go_wp2
      go_ret
      exact ⟨w.heap.size, rfl, hown, hB⟩

theorem flatSent_one (zs : List ESent) : ∀ u ∈ zs.flatMap cSent, u.oneCell' = true := by
  intro u hu
  obtain ⟨r, _, hr⟩ := List.mem_flatMap.1 hu
  exact cSent_one r u hr
theorem cloneSent_any (A : Option Addr) (n c : Nat) (zs : List ESent) (w : World) (hn : zs.length = n) (hm : n ≤ 1048577) (hr : Rd w 2 A n (zs.flatMap cSent)) :
    Calls Try.prog 65 #[.slice A n c] w fun e w' => ∃ A' c', e = .returned (.slice A' n c') ∧ w'.ownsRow w.heap.size 80 2 (.slice A' n c') n (zs.flatMap cSent) ∧ Below w.heap.size w w' := by
  have q : ∀ (w : World) (a : Option Addr) (n c n' c' : Nat), (binOp .eql 37 (.slice a n c) (.slice none n' c')).run Try.prog w = .ok (.bool a.isNone) w := fun w a n c n' c' => Lib.run_eql_slice_nil w _ _ a n c n' c' Try.underlying37
  subst hn
  cases A with
  | none =>
    obtain rfl : zs = [] := by
      cases zs with
      | nil => rfl
      | cons z l =>
        obtain ⟨b, o, h0, _⟩ := hr.2 (by simp)
        cases h0
    go_enter Try.func65, Try.ntmps65
    go_wp2
    go_ret
    exact ⟨none, 0, rfl, World.ownsRow_nil _ _ _ _, Below.refl _ _⟩
  | some ad =>
    go_enter Try.func65, Try.ntmps65
    go_wp2_with (at_builtin; refine wpList_copy _ rfl (.tmp 5) (.tmp 6) 37 rfl 80 (.agg #[.int .i64 0, .string ⟨#[]⟩]) 2 24 Try.underlying37 infoSent rfl (by decide) w.heap.size _ 0 0 [] rfl (World.ownsRow_made w #[] 0 (Nat.le_refl _) (Nat.zero_le _) rfl) (some ad) zs.length c (zs.flatMap cSent) rfl (fun h => by cases h) (hr.alloc _) (flatSent_one zs) (by omega) (by simp) ?_; intro A1 c1 w1 hown1 _ hB1)
    simp only [Nat.zero_add, List.nil_append] at hown1
    go_wp2
    go_ret
    exact ⟨A1, c1, by simp, hown1, ((Below.refl _ _).alloc (Nat.le_refl _) _).trans hB1⟩

/-! ### sizes -/
theorem szSentS_any (A : Option Addr) (n c : Nat) (zs : List ESent) (left : Int) (w : World) (hn : zs.length = n) (hm : n ≤ 9223372036854775807) (h0 : 0 ≤ left) (h1 : left ≤ 1048576) (hT : ∀ z ∈ zs, Txt z.f1) (hr : Rd w 2 A n (zs.flatMap cSent)) :
    Calls Try.prog 73 #[.slice A n c, .int .i64 left] w fun e w' => ∃ q : Int, e = .returned (.int .i64 q) ∧ -1 ≤ q ∧ q ≤ left ∧ (0 ≤ q → n ≤ 1048576) ∧ Below w.heap.size w w' := by
  subst hn
  by_cases hbig : left - zs.length < 0
  · go_enter Try.func73, Try.ntmps73
    go_wp2
    go_ret
    exact ⟨-1, rfl, by omega, by omega, by omega, Below.refl _ _⟩
  · go_enter Try.func73, Try.ntmps73
    go_wp2_with fail
    go_loopw [1, 5] (fun l i wr => ∃ (k : Nat) (q : Int), k ≤ zs.length ∧ i = .int .i64 k ∧ l = .int .i64 q ∧ 0 ≤ q ∧ q ≤ left ∧ Below w.heap.size w wr) (fun _ i _ => zs.length - (intOf i).toNat)
    case atStart => exact ⟨0, left - zs.length, by omega, rfl, rfl, by omega, by omega, Below.refl _ _⟩
    case round =>
      obtain ⟨k, q, hk, rfl, rfl, hq0, hq1, hB⟩ := hrel
      by_cases hlt : k < zs.length
      · obtain ⟨b, o, rfl, hb, hc⟩ := Rd.get cSent_len (hr.below hB) rfl hlt
        have hc0 : wr.cell? ⟨b, o + k * 2, none⟩ = some (.int .i64 zs[k].f0) := hc 0 _ (by omega) rfl
        have hc1 : wr.cell? ⟨b, o + k * 2 + 1, none⟩ = some (.string ⟨zs[k].f1.toArray⟩) := hc 1 _ (by omega) rfl
        have htx := hT zs[k] (List.getElem_mem _)
        clear hc
        go_wp2_with fail
        refine (szSent_any _ _ _ _ htx (by omega) (by omega)).mono ?_
        rintro e w1 ⟨q1, rfl, hx0, hx1, _, hb1⟩
        have hB1 := below_step hB hb1
        by_cases hneg : q1 < 0
        · go_wp2
          go_ret
          exact ⟨-1, rfl, by omega, by omega, by omega, hB1⟩
        · go_wp2
          go_roundw
          case rel => exact ⟨k + 1, q1, by omega, by go_num, rfl, by omega, by omega, hB1⟩
          case measure => simp [intOf]; omega
      · go_wp2
        go_ret
        exact ⟨q, rfl, by omega, hq1, fun _ => by omega, hB⟩

/-! ### equality of equal rows -/
theorem eqSentS_same (A B : Option Addr) (n m c d : Nat) (zs : List ESent) (w : World) (hn : zs.length = n) (hm : zs.length = m) (hb : n ≤ 4611686018427387904) (hr : Rd w 2 A n (zs.flatMap cSent)) (hs : Rd w 2 B m (zs.flatMap cSent)) :
    Calls Try.prog 75 #[.slice A n c, .slice B m d] w fun e w' => e = .returned (.bool true) ∧ Below w.heap.size w w' := by
  subst hn
  subst hm
  go_enter Try.func75, Try.ntmps75
  go_wp2_with fail
  go_loopw [5] (fun i wr => ∃ k : Nat, k ≤ zs.length ∧ i = .int .i64 k ∧ Below w.heap.size w wr) (fun i _ => zs.length - (intOf i).toNat)
  case atStart => exact ⟨0, Nat.zero_le _, rfl, Below.refl _ _⟩
  case round =>
    obtain ⟨k, hk, rfl, hB⟩ := hrel
    by_cases hlt : k < zs.length
    · obtain ⟨b, o, rfl, hb, hc⟩ := Rd.get cSent_len (hr.below hB) rfl hlt
      obtain ⟨b', o', rfl, hb', hd⟩ := Rd.get cSent_len (hs.below hB) rfl hlt
      have k0 : (0 : Int) ≤ k := by omega
      have k1 : (k : Int) < zs.length := by omega
      have hc0 : wr.cell? ⟨b, o + k * 2, none⟩ = some (.int .i64 zs[k].f0) := hc 0 _ (by omega) rfl
      have hc1 : wr.cell? ⟨b, o + k * 2 + 1, none⟩ = some (.string ⟨zs[k].f1.toArray⟩) := hc 1 _ (by omega) rfl
      have hd0 : wr.cell? ⟨b', o' + k * 2, none⟩ = some (.int .i64 zs[k].f0) := hd 0 _ (by omega) rfl
      have hd1 : wr.cell? ⟨b', o' + k * 2 + 1, none⟩ = some (.string ⟨zs[k].f1.toArray⟩) := hd 1 _ (by omega) rfl
      clear hc hd
      go_wp2_with fail
      have HK : Hid (∀ wx, Below wr.heap.size wr wx → (Below wr.heap.size wr wx ∧ wx.cell? ⟨b, o + k * 2, none⟩ = some (.int .i64 zs[k].f0) ∧ wx.cell? ⟨b, o + k * 2 + 1, none⟩ = some (.string ⟨zs[k].f1.toArray⟩) ∧ wx.cell? ⟨b', o' + k * 2, none⟩ = some (.int .i64 zs[k].f0) ∧ wx.cell? ⟨b', o' + k * 2 + 1, none⟩ = some (.string ⟨zs[k].f1.toArray⟩))) := Lib.hid (fun wx h => ⟨h, (h.cell (p := ⟨b, o + k * 2, none⟩) hb).trans hc0, (h.cell (p := ⟨b, o + k * 2 + 1, none⟩) hb).trans hc1, (h.cell (p := ⟨b', o' + k * 2, none⟩) hb').trans hd0, (h.cell (p := ⟨b', o' + k * 2 + 1, none⟩) hb').trans hd1⟩)
      go_region_held3 (fun wx => Below wr.heap.size wr wx ∧ wx.cell? ⟨b, o + k * 2, none⟩ = some (.int .i64 zs[k].f0) ∧ wx.cell? ⟨b, o + k * 2 + 1, none⟩ = some (.string ⟨zs[k].f1.toArray⟩) ∧ wx.cell? ⟨b', o' + k * 2, none⟩ = some (.int .i64 zs[k].f0) ∧ wx.cell? ⟨b', o' + k * 2 + 1, none⟩ = some (.string ⟨zs[k].f1.toArray⟩)) (first | exact HK.out _ (Below.refl _ _).drew | exact HK.out _ (below_step (And.left ‹_›) ‹_›)) (first | (go_at_call 87; refine (eqSent_same _ _ _).mono ?_; rintro e w' ⟨rfl, hb7⟩))
      all_goals
        rename_i hHeld
        have hB2 := below_step hB hHeld.1
        clear hHeld
        go_wp2
        go_roundw
        case rel => exact ⟨k + 1, by omega, by go_num, hB2⟩
        case measure => simp [intOf]; omega
    · go_wp2
      go_ret
      exact ⟨rfl, hB⟩

/-! ### marks -/
def markSent (k : Int) (j : Nat) : ESent := ⟨k + 2 * (j : Int), markT (k + 2 * (j : Int) + 1)⟩
def marksSent (k : Int) (n : Nat) : List ESent := (List.range n).map fun (j : Nat) => markSent k j
theorem marksSent_len (k : Int) (n : Nat) : (marksSent k n).length = n := by simp [marksSent]
theorem marksSent_get (k : Int) (n j : Nat) (h : j < (marksSent k n).length) : (marksSent k n)[j] = markSent k j := by simp [marksSent]
theorem marksSent_step (k : Int) (j : Nat) : (marksSent k (j + 1)).flatMap cSent = (marksSent k j).flatMap cSent ++ cSent (markSent k j) := by
  unfold marksSent
  rw [List.range_succ, List.map_append, List.flatMap_append]
  simp
theorem markSentS_any (base : Nat) (A : Option Addr) (n c : Nat) (xs : List Value) (k : Int) (w : World) (hk0 : 1 ≤ k) (hk1 : k ≤ 1152921504606846976) (hm : n ≤ 1048577) (hown : w.ownsRow base 80 2 (.slice A n c) n xs) :
    Calls Try.prog 76 #[.slice A n c, .int .i64 k] w fun e w' => e = .returned (.int .i64 (k + 2 * n)) ∧ w'.ownsRow base 80 2 (.slice A n c) n ((marksSent k n).flatMap cSent) ∧ w.grownBy w' (A.map (·.block)) := by
  have hxl : xs.length = n * 2 := hown.1
  go_enter Try.func76, Try.ntmps76
  go_wp2_with fail
  go_loopw [1, 5] (fun q i wr => ∃ j : Nat, j ≤ n ∧ i = .int .i64 j ∧ q = .int .i64 (k + 2 * j) ∧ wr.ownsRow base 80 2 (.slice A n c) n ((marksSent k j).flatMap cSent ++ xs.drop (j * 2)) ∧ w.grownBy wr (A.map (·.block))) (fun _ i _ => n - (intOf i).toNat)
  case atStart => exact ⟨0, Nat.zero_le _, rfl, by simp, by simpa [marksSent] using hown, World.grownBy.refl _ _⟩
  case round =>
    obtain ⟨j, hj, rfl, rfl, hown', hg⟩ := hrel
    clear hown
    by_cases hlt : j < n
    · have hAg : ∃ g, A = some ⟨g, 0, none⟩ := by
        rcases hown'.2 with ⟨_, h0⟩ | ⟨g, cap, cur, hv, _⟩
        · omega
        · simp only [Value.slice.injEq, true_and] at hv
          exact ⟨g, hv.1⟩
      obtain ⟨g, rfl⟩ := hAg
      have hPl : ((marksSent k j).flatMap cSent).length = j * 2 := by rw [flatMap_length cSent 2 cSent_len, marksSent_len]
      have hfin := marksSent_step k j
      have hd0 := ((hown').cellAt (j * 2) (by omega)).trans (grow_get hPl (by omega) (by omega))
      have hf0 := (hown').frozenAt (j * 2)
      have hs0 := (hown').stored (j * 2) (.int .i64 (k + 2 * (j : Int)))
      rw [grow_set hPl (by omega)] at hs0
      go_wp2_with fail
      refine (markText_any _ _ (by omega) (by omega)).mono ?_
      rintro e v0 ⟨rfl, hb0⟩
      have hown1 := own_below hs0.1 hb0
      have hg1 := grown_below (grown_trans' (hg) hs0.2) hb0
      have hd1 := ((hown1).cellAt (j * 2 + 1) (by omega)).trans (grow_get (by simp only [List.length_append, List.length_cons, List.length_nil, hPl]) (by omega) (by omega))
      have hf1 := (hown1).frozenAt (j * 2 + 1)
      have hs1 := (hown1).stored (j * 2 + 1) (.string ⟨(markT (k + 2 * (j : Int) + 1)).toArray⟩)
      rw [grow_set (by simp only [List.length_append, List.length_cons, List.length_nil, hPl]) (by omega)] at hs1
      have hlist : (marksSent k j).flatMap cSent ++ [.int .i64 (k + 2 * (j : Int))] ++ [.string ⟨(markT (k + 2 * (j : Int) + 1)).toArray⟩] = (marksSent k (j + 1)).flatMap cSent := by
        rw [hfin]; simp only [List.append_assoc]; rfl
      rw [hlist, show j * 2 + 1 + 1 = (j + 1) * 2 from by omega] at hs1
      have hst := Lib.hid hs1.1
      have hgr := Lib.hid (grown_trans' (hg1) hs1.2)
      clear hown' hlist hfin hs0 hs1
      generalize xs[j * 2]'_ = old0 at hd0
      generalize xs[j * 2 + 1]'_ = old1 at hd1
      go_wp2
      go_roundw
      case rel => exact ⟨j + 1, by omega, by go_num, by go_num, hst.out, hgr.out⟩
      case measure => simp [intOf]; omega
    · obtain rfl : j = n := by omega
      rw [List.drop_of_length_le (by omega), List.append_nil] at hown'
      go_wp2
      go_ret
      exact ⟨rfl, hown', hg⟩
theorem heldSentS_any (A : Option Addr) (n c : Nat) (k : Int) (w : World) (hk0 : 1 ≤ k) (hk1 : k ≤ 1152921504606846976) (hm : n ≤ 1048577) (hr : Rd w 2 A n ((marksSent k n).flatMap cSent)) :
    Calls Try.prog 77 #[.slice A n c, .int .i64 k] w fun e w' => e = .returned (.int .i64 (k + 2 * n)) ∧ Below w.heap.size w w' := by
  go_enter Try.func77, Try.ntmps77
  go_wp2_with fail
  go_loopw [1, 5] (fun q i wr => ∃ j : Nat, j ≤ n ∧ i = .int .i64 j ∧ q = .int .i64 (k + 2 * j) ∧ Below w.heap.size w wr) (fun _ i _ => n - (intOf i).toNat)
  case atStart => exact ⟨0, Nat.zero_le _, rfl, by simp, Below.refl _ _⟩
  case round =>
    obtain ⟨j, hj, rfl, rfl, hB⟩ := hrel
    by_cases hlt : j < n
    · have hlm : j < (marksSent k n).length := by rw [marksSent_len]; exact hlt
      obtain ⟨b, o, rfl, hb, hc⟩ := Rd.get cSent_len (hr.below hB) (marksSent_len k n).symm hlm
      rw [marksSent_get] at hc
      have k0 : (0 : Int) ≤ j := by omega
      have k1 : (j : Int) < n := by omega
      have hc0 : wr.cell? ⟨b, o + j * 2, none⟩ = some (.int .i64 (k + 2 * (j : Int))) := hc 0 _ (by omega) rfl
      have hc1 : wr.cell? ⟨b, o + j * 2 + 1, none⟩ = some (.string ⟨(markT (k + 2 * (j : Int) + 1)).toArray⟩) := hc 1 _ (by omega) rfl
      clear hc
      go_wp2_with fail
      go_region_held3 (fun wx => Below wr.heap.size wr wx ∧ wx.cell? ⟨b, o + j * 2 + 1, none⟩ = some (.string ⟨(markT (k + 2 * (j : Int) + 1)).toArray⟩)) (first | exact ⟨(Below.refl _ _).drew, hc1⟩ | exact held_step hb hc1 (by assumption) (by assumption)) (first | (go_at_call 82; refine (markText_any _ _ (by omega) (by omega)).mono ?_; rintro e w' ⟨rfl, hb7⟩))
      all_goals
        rename_i hHeld
        have hB2 := below_step hB hHeld.1
        clear hHeld
        go_wp2
        go_roundw
        case rel => exact ⟨j + 1, by omega, by go_num, by go_num, hB2⟩
        case measure => simp [intOf]; omega
    · obtain rfl : j = n := by omega
      go_wp2
      go_ret
      exact ⟨rfl, hB⟩
end Go.Proofs.Ytpnejmlbfadaaaa
