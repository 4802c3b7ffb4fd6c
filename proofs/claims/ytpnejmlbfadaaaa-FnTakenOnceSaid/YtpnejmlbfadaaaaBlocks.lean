/- Contracts: the blocks of a sender's commands, in the program and in the reference. No condition. -/
import Derived.Test.YtpnejmlbfadaaaaSndOk
import Derived.Test.YtpnejmlbfadaaaaAppend
import Derived.Test.YtpnejmlbfadaaaaCmd
import Derived.Deep.AppendLies
import Derived.Deep.RegionLaw
namespace Go.Proofs.Ytpnejmlbfadaaaa
open Go.RowKit

theorem infoStrB : (Try.prog.info? 9).map (fun i => (i.zero, i.size, i.bytes)) = some (some (.string ⟨#[]⟩), 1, 16) := by kernel_rfl
def blocksL (zs : List ESent) : List (List UInt8) := zs.map fun z => encCmd 0 z.f0 z.f1
theorem blocksL_len (zs : List ESent) : (blocksL zs).length = zs.length := by simp [blocksL]
theorem blocksL_take {zs : List ESent} {k : Nat} (hk : k < zs.length) : (blocksL (zs.take (k + 1))).flatMap cS = (blocksL (zs.take k)).flatMap cS ++ [.string ⟨(encCmd 0 zs[k].f0 zs[k].f1).toArray⟩] := by
  unfold blocksL
  rw [List.take_succ_eq_append_getElem hk, List.map_append, List.flatMap_append]
  rfl
def cbL (nx wd : Int) (zs : List ESent) (dn : Int) : List (List UInt8) := if sndOk nx wd zs dn then blocksL zs else []

theorem cbL_le (nx wd : Int) (zs : List ESent) (dn : Int) : (cbL nx wd zs dn).length ≤ zs.length := by
  unfold cbL
  split
  · rw [blocksL_len]; omega
  · simp

theorem commandBlocks_any (nx wd : Int) (A : Option Addr) (n c : Nat) (zs : List ESent) (dn : Int) (w : World) (hn : zs.length = n) (hm : n ≤ 1048576) (hT : ∀ z ∈ zs, Txt z.f1) (hr : Rd w 2 A n (zs.flatMap cSent)) :
    Calls Try.prog 31 #[.agg #[.int .i64 nx, .int .i64 wd, .slice A n c, .int .i64 dn]] w fun e w' => ∃ A' c', e = .returned (.slice A' (cbL nx wd zs dn).length c') ∧ w'.ownsRow w.heap.size 9 1 (.slice A' (cbL nx wd zs dn).length c') (cbL nx wd zs dn).length ((cbL nx wd zs dn).flatMap cS) ∧ Below w.heap.size w w' := by
  subst hn
  have hok := fun W hr => senderOk_any nx wd A zs.length c zs dn W rfl (by omega) hT hr
  cases hs : sndOk nx wd zs dn
  · rw [hs] at hok
    have hc := Lib.hid (show cbL nx wd zs dn = [] by unfold cbL; rw [hs]; rfl)
    go_enter Try.func31, Try.ntmps31
    go_wp2_with fail
    refine (hok _ (hr.alloc _)).mono ?_
    rintro e w1 ⟨rfl, hb1⟩
    go_wp2
    go_ret
    refine ⟨none, 0, by rw [hc.out]; rfl, ?_, ((Below.refl _ _).alloc (Nat.le_refl _) _).trans (hb1.mono (by simp))⟩
    rw [hc.out]
    exact World.ownsRow_nil _ _ _ _
  · rw [hs] at hok
    have hc := Lib.hid (show cbL nx wd zs dn = blocksL zs by unfold cbL; rw [hs]; rfl)
    have hc2 := Lib.hid (show (cbL nx wd zs dn).length = zs.length by rw [hc.out, blocksL_len])
    go_enter Try.func31, Try.ntmps31
    go_wp2_with fail
    refine (hok _ (hr.alloc _)).mono ?_
    rintro e w1 ⟨rfl, hb1⟩
    have hr1 := (hr.alloc _).below hb1
    obtain ⟨hc1, hf1⟩ := bcell hb1
    have hz1 := hb1.size
    simp only [World.size_alloc] at hz1
    have hl1 : w.heap.size < w1.heap.size := by omega
    have hB1 := ((Below.refl _ _).alloc (Nat.le_refl _) _).trans (hb1.mono (by simp))
    go_wp2_with fail
    clear hc1 hf1 hb1 hok
    go_loopw [3, 12] (fun q i wr => ∃ (k : Nat) (A' : Option Addr) (c' : Nat), k ≤ zs.length ∧ i = .int .i64 k ∧ q = .slice A' k c' ∧ wr.ownsRow w1.heap.size 9 1 (.slice A' k c') k ((blocksL (zs.take k)).flatMap cS) ∧ Below w1.heap.size w1 wr) (fun _ i _ => zs.length - (intOf i).toNat)
    case atStart => exact ⟨0, none, 0, Nat.zero_le _, rfl, rfl, World.ownsRow_nil _ _ _ _, Below.refl _ _⟩
    case round =>
      obtain ⟨k, A2, c2, hk, rfl, rfl, hown, hB⟩ := hrel
      by_cases hlt : k < zs.length
      · have k0 : (0 : Int) ≤ k := by omega
        have k1 : (k : Int) < zs.length := by omega
        obtain ⟨b, o, rfl, hb1, hcl⟩ := Rd.get cSent_len (hr1.below hB) rfl hlt
        have q0 : wr.cell? ⟨b, o + k * 2, none⟩ = some (.int .i64 zs[k].f0) := hcl 0 _ (by omega) rfl
        have q1 : wr.cell? ⟨b, o + k * 2 + 1, none⟩ = some (.string ⟨zs[k].f1.toArray⟩) := hcl 1 _ (by omega) rfl
        have htx := hT zs[k] (List.getElem_mem hlt)
        have hzr := hB.size
        have hnext := Lib.hid (blocksL_take hlt)
        clear hcl
        generalize zs[k].f0 = u0 at *
        generalize zs[k].f1 = u1 at *
        go_wp2_with fail
        refine (encodeCommand_any _ _ _ _ htx).mono ?_
        rintro e w2 ⟨rfl, hb2⟩
        have hs2 : Below wr.heap.size wr w2 := ((Below.refl _ _).alloc (Nat.le_refl _) _).trans (hb2.mono (by simp))
        have hown2 := own_below hown hs2
        have hz2 := hs2.size
        go_wp2_with (at_builtin; refine wpList_append1 _ rfl (.tmp 16) (.tmp 22) 43 rfl 9 (.string ⟨#[]⟩) 1 16 Try.underlying43 infoStrB rfl (by decide) w1.heap.size _ _ _ _ rfl hown2 [.string ⟨(encCmd 0 u0 u1).toArray⟩] _ rfl rfl rfl (by simp [Value.oneCell']) (by omega) (by omega) ?_; intro g3 c3 w3 hown3 _ hb3)
        rw [← hnext.out] at hown3
        go_roundw
        case rel => exact ⟨k + 1, some ⟨g3, 0, none⟩, c3, by omega, by go_num, rfl, hown3, (below_step hB hs2).trans hb3⟩
        case measure => simp [intOf]; omega
      · obtain rfl : k = zs.length := by omega
        rw [List.take_length] at hown
        go_wp2
        go_ret
        refine ⟨A2, c2, by rw [hc2.out]; simp, ?_, below_step hB1 hB⟩
        rw [hc2.out, hc.out]
        exact own_base hown (by omega)

set_option maxRecDepth 100000 in
set_option maxHeartbeats 4000000 in
theorem sCommandBlocks_any (nx wd : Int) (A : Option Addr) (n c : Nat) (zs : List ESent) (dn : Int) (w : World) (hn : zs.length = n) (hm : n ≤ 1048576) (hT : ∀ z ∈ zs, Txt z.f1) (hr : Rd w 2 A n (zs.flatMap cSent)) :
    Calls Try.prog 57 #[.agg #[.int .i64 nx, .int .i64 wd, .slice A n c, .int .i64 dn]] w fun e w' => ∃ A' c', e = .returned (.slice A' (cbL nx wd zs dn).length c') ∧ w'.ownsRow w.heap.size 9 1 (.slice A' (cbL nx wd zs dn).length c') (cbL nx wd zs dn).length ((cbL nx wd zs dn).flatMap cS) ∧ Below w.heap.size w w' := by
  subst hn
  have hok := fun W hr => sSenderOk_any nx wd A zs.length c zs dn W rfl (by omega) hT hr
  have hr1 := (hr.alloc (.cells #[.int .i64 nx, .int .i64 wd, .slice A zs.length c, .int .i64 dn] 39)).alloc (.cells #[] 9)
  have hB1 : Below w.heap.size w ((w.alloc (.cells #[.int .i64 nx, .int .i64 wd, .slice A zs.length c, .int .i64 dn] 39)).alloc (.cells #[] 9)) := ((Below.refl _ _).alloc (Nat.le_refl _) _).alloc (by simp) _
  have hown0 := own_fresh (w.alloc (.cells #[.int .i64 nx, .int .i64 wd, .slice A zs.length c, .int .i64 dn] 39)) (w.heap.size + 1) (w.heap.size + 1) 9 1 (by simp) (Nat.le_refl _)
  have hcells : ∀ wr, Below (w.heap.size + 1) ((w.alloc (.cells #[.int .i64 nx, .int .i64 wd, .slice A zs.length c, .int .i64 dn] 39)).alloc (.cells #[] 9)) wr → wr.cell? ⟨w.heap.size, 0, none⟩ = some (.int .i64 nx) ∧ wr.cell? ⟨w.heap.size, 1, none⟩ = some (.int .i64 wd) ∧ wr.cell? ⟨w.heap.size, 2, none⟩ = some (.slice A zs.length c) ∧ wr.cell? ⟨w.heap.size, 3, none⟩ = some (.int .i64 dn) := fun wr h =>
    ⟨(h.cell (p := ⟨w.heap.size, 0, none⟩) (by simp)).trans (by simp [go_sem]), (h.cell (p := ⟨w.heap.size, 1, none⟩) (by simp)).trans (by simp [go_sem]), (h.cell (p := ⟨w.heap.size, 2, none⟩) (by simp)).trans (by simp [go_sem]), (h.cell (p := ⟨w.heap.size, 3, none⟩) (by simp)).trans (by simp [go_sem])⟩
  have hrd : ∀ wr, Below w.heap.size w wr → Rd wr 2 A zs.length (zs.flatMap cSent) := fun wr h => hr.below h
  have HC := Lib.hid hcells
  clear hcells hr1
  have hsz : ((w.alloc (.cells #[.int .i64 nx, .int .i64 wd, .slice A zs.length c, .int .i64 dn] 39)).alloc (.cells #[] 9)).heap.size = w.heap.size + 1 + 1 := by simp
  go_enter Try.func57, Try.ntmps57
  go_wp2_with fail
  generalize hWe : (w.alloc (.cells #[.int .i64 nx, .int .i64 wd, .slice A zs.length c, .int .i64 dn] 39)).alloc (.cells #[] 9) = W at hB1 hown0 HC hsz ⊢
  clear hWe hr
  go_loopw [3, 4] (fun q i wr => ∃ (k : Nat) (A' : Option Addr) (c' : Nat), k ≤ zs.length ∧ (0 < k → sndOk nx wd zs dn = true) ∧ i = .int .i64 k ∧ q = .slice A' k c' ∧ wr.ownsRow (w.heap.size + 1) 9 1 (.slice A' k c') k ((blocksL (zs.take k)).flatMap cS) ∧ Below (w.heap.size + 1) W wr) (fun _ i _ => zs.length - (intOf i).toNat)
  case atStart => exact ⟨0, some ⟨w.heap.size + 1, 0, none⟩, 0, Nat.zero_le _, by omega, rfl, rfl, hown0, Below.refl _ _⟩
  case round =>
    obtain ⟨k, A2, c2, hk, hks, rfl, rfl, hown, hB⟩ := hrel
    obtain ⟨x0, x1, x2, x3⟩ := HC.out _ hB
    have hBw : Below w.heap.size w wr := hB1.trans (hB.mono (by omega))
    have hzr := hB.size
    have hl0 : w.heap.size < wr.heap.size := by omega
    by_cases hlt : k < zs.length
    · have k0 : (0 : Int) ≤ k := by omega
      have k1 : (k : Int) < zs.length := by omega
      go_wp2_with fail
      refine (hok _ (hrd _ hBw)).mono ?_
      rintro e w1 ⟨rfl, hb1⟩
      have hown1 := own_below hown hb1
      have hz1 := hb1.size
      obtain ⟨hc1, hf1⟩ := bcell hb1
      have X2 : w1.cell? ⟨w.heap.size, 2, none⟩ = some (.slice A zs.length c) := (hc1 _ _ hl0).trans x2
      clear hc1 hf1
      cases hs : sndOk nx wd zs dn
      · have hk0 : k = 0 := by
          by_cases hp : 0 < k
          · have := hks hp; rw [hs] at this; cases this
          · omega
        have hc := Lib.hid (show cbL nx wd zs dn = [] by unfold cbL; rw [hs]; rfl)
        subst hk0
        go_wp2
        go_ret
        refine ⟨A2, c2, by rw [hc.out]; simp, ?_, below_step hBw hb1⟩
        rw [hc.out]
        exact own_base hown1 (by omega)
      · have hBw1 := below_step hBw hb1
        obtain ⟨b, o, rfl, hb2, hcl⟩ := Rd.get cSent_len (hrd _ hBw1) rfl hlt
        have q0 : w1.cell? ⟨b, o + k * 2, none⟩ = some (.int .i64 zs[k].f0) := hcl 0 _ (by omega) rfl
        have q1 : w1.cell? ⟨b, o + k * 2 + 1, none⟩ = some (.string ⟨zs[k].f1.toArray⟩) := hcl 1 _ (by omega) rfl
        have htx := hT zs[k] (List.getElem_mem hlt)
        have hnext := Lib.hid (blocksL_take hlt)
        clear hcl
        generalize zs[k].f0 = u0 at *
        generalize zs[k].f1 = u1 at *
        obtain ⟨i0, hi, hy0, hy1, hy2⟩ := info_parts infoStrB
        go_wp2_with fail
        go_region_law (first | (go_simp; go_at_call 40; refine (sEncodeCommand_any _ _ _ _ htx).mono ?_; rintro e w2 ⟨rfl, hb2⟩; have hown2 := own_below (w := w1.drew) hown1 hb2; have hz2 : w1.heap.size ≤ w2.heap.size := hb2.size) | (refine step_append_lies _ rfl (.tmp 17) (.tmp 31) 43 rfl (w.heap.size + 1) 9 i0 (.string ⟨#[]⟩) 1 16 Try.underlying43 hi hy0 hy1 hy2 rfl (by decide) _ k _ (by simp [Act.eval]) (hown2.alloc _) ⟨w2.heap.size, 0, none⟩ 1 1 [.string ⟨(encCmd 0 u0 u1).toArray⟩] (by simp [Act.eval]) rfl (World.news_of_block (heap_alloc_new w2 _)) (by simp [Value.oneCell']) (by decide) (by unfold maxLen; omega) (by omega) (by simp; omega) _ rfl ?_; intro g3 c3 w3 hown3 hg3 _ _))
        all_goals
          rw [← hnext.out] at hown3
          have hb3 := below_of_own (hown2.alloc _) (by rw [← ownBlock_slice A2 k c2]; exact hg3) (by simp; omega)
          have hBfin := (((hB.trans (hb1.mono (by omega))).drew).trans (hb2.mono (by show w.heap.size + 1 ≤ w1.heap.size; omega))).trans (((Below.refl _ _).alloc (by omega) _).trans hb3)
          clear hown1 hown2 hb1 hb2 hb3 hg3 hB hBw hBw1 q0 q1 X2 x0 x1 x2 x3 HC hown hown0 hB1 hok hrd
          go_wp2
          go_roundw
          case rel => exact ⟨k + 1, some ⟨g3, 0, none⟩, c3, by omega, fun _ => hs, by go_num, rfl, hown3, hBfin⟩
          case measure => simp [intOf]; omega
    · obtain rfl : k = zs.length := by omega
      rw [List.take_length] at hown
      have hcb : cbL nx wd zs dn = blocksL zs := by
        by_cases hz : 0 < zs.length
        · unfold cbL; rw [hks hz]; rfl
        · have : zs = [] := List.length_eq_zero_iff.1 (by omega)
          subst this
          unfold cbL; split <;> rfl
      have hc := Lib.hid hcb
      have hc2 := Lib.hid (show (cbL nx wd zs dn).length = zs.length by rw [hcb, blocksL_len])
      clear hcb
      go_wp2
      go_ret
      refine ⟨A2, c2, by rw [hc2.out]; simp, ?_, hBw⟩
      rw [hc2.out, hc.out]
      exact own_base hown (by omega)
end Go.Proofs.Ytpnejmlbfadaaaa
