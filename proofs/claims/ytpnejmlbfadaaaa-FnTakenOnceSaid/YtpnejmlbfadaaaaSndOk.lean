/- Contracts: validity of a sender of commands, in the program and in the reference. No condition. -/
import Derived.Test.YtpnejmlbfadaaaaSentRow
namespace Go.Proofs.Ytpnejmlbfadaaaa
open Go.RowKit

def elAt (nx : Int) (zs : List ESent) (i : Nat) : Bool := inB ((zs.getD i default).f1.length : Int) 1 40 && ((zs.getD i default).f0 == (nx - zs.length + i + 256) % 256)
def okTo (nx : Int) (zs : List ESent) (k : Nat) : Bool := (List.range k).all (elAt nx zs)
def sndPre (nx wd : Int) (n : Nat) (dn : Int) : Bool := inB nx 0 255 && inB wd 1 20 && inB dn 0 1000000 && decide ((n : Int) ≤ wd)
def sndOk (nx wd : Int) (zs : List ESent) (dn : Int) : Bool := sndPre nx wd zs.length dn && okTo nx zs zs.length
theorem okTo_step {nx : Int} {zs : List ESent} {k : Nat} (h : okTo nx zs k = true) (h1 : elAt nx zs k = true) : okTo nx zs (k + 1) = true := by
  unfold okTo at h ⊢
  rw [List.range_succ, List.all_append, h]
  simp [h1]
theorem okTo_fail {nx : Int} {zs : List ESent} {k : Nat} (hk : k < zs.length) (h1 : elAt nx zs k = false) : okTo nx zs zs.length = false := by
  unfold okTo
  rw [List.all_eq_false]
  exact ⟨k, List.mem_range.2 hk, by simp [h1]⟩
theorem okTo_all {nx : Int} {zs : List ESent} (h : okTo nx zs zs.length = true) {k : Nat} (hk : k < zs.length) : (1 ≤ zs[k].f1.length ∧ zs[k].f1.length ≤ 40) ∧ zs[k].f0 = (nx - zs.length + k + 256) % 256 := by
  unfold okTo at h
  have h1 := (List.all_eq_true.1 h) k (List.mem_range.2 hk)
  unfold elAt at h1
  have hg : zs.getD k default = zs[k] := by simp [hk]
  rw [hg] at h1
  simp only [Bool.and_eq_true, beq_iff_eq] at h1
  have := inB_true h1.1
  exact ⟨by omega, h1.2⟩
theorem sndPre_parts {nx wd dn : Int} {n : Nat} (h : sndPre nx wd n dn = true) : (0 ≤ nx ∧ nx ≤ 255) ∧ (1 ≤ wd ∧ wd ≤ 20) ∧ (0 ≤ dn ∧ dn ≤ 1000000) ∧ (n : Int) ≤ wd := by
  unfold sndPre at h
  simp only [Bool.and_eq_true, decide_eq_true_eq] at h
  exact ⟨inB_true h.1.1.1, inB_true h.1.1.2, inB_true h.1.2, h.2⟩

theorem senderOk_any (nx wd : Int) (A : Option Addr) (n cp : Nat) (zs : List ESent) (dn : Int) (w : World) (hn : zs.length = n) (hb : n ≤ 1048577) (hwf : ∀ z ∈ zs, Txt z.f1) (hr : Rd w 2 A n (zs.flatMap cSent)) :
    Calls Try.prog 36 #[.agg #[.int .i64 nx, .int .i64 wd, .slice A n cp, .int .i64 dn]] w fun e w' => e = .returned (.bool (sndOk nx wd zs dn)) ∧ Below w.heap.size w w' := by
  subst hn
  cases h : sndPre nx wd zs.length dn
  · have hc := Lib.hid (show sndOk nx wd zs dn = false by unfold sndOk; rw [h]; rfl)
    have hk := Lib.hid h
    clear h
    go_enter Try.func36, Try.ntmps36
    go_wp2_with (go_at_call 62; refine (between_any _ _ _ _).mono ?_; rintro e w' ⟨rfl, rfl⟩)
    all_goals first
      | (go_ret; exact ⟨ret_bool hc.out.symm, (Below.refl _ _).alloc (Nat.le_refl _) _⟩)
      | (exfalso; have h9 := hk.out; clear hk hc; simp_all [sndPre] <;> omega)
  · have hc := Lib.hid (show sndOk nx wd zs dn = okTo nx zs zs.length by unfold sndOk; rw [h]; rfl)
    obtain ⟨p1, p2, p3, p4⟩ := sndPre_parts h
    have h1 : inB nx 0 255 = true := inB_mk p1.1 p1.2
    have h2 : inB wd 1 20 = true := inB_mk p2.1 p2.2
    have h3 : inB dn 0 1000000 = true := inB_mk p3.1 p3.2
    have hr' := hr.alloc (.cells #[.int .i64 nx, .int .i64 wd, .slice A zs.length cp, .int .i64 dn] 39)
    have hB0 : Below w.heap.size w (w.alloc (.cells #[.int .i64 nx, .int .i64 wd, .slice A zs.length cp, .int .i64 dn] 39)) := (Below.refl _ _).alloc (Nat.le_refl _) _
    have hcells : ∀ wr, Below (w.alloc (.cells #[.int .i64 nx, .int .i64 wd, .slice A zs.length cp, .int .i64 dn] 39)).heap.size (w.alloc (.cells #[.int .i64 nx, .int .i64 wd, .slice A zs.length cp, .int .i64 dn] 39)) wr → wr.cell? ⟨w.heap.size, 0, none⟩ = some (.int .i64 nx) ∧ wr.cell? ⟨w.heap.size, 2, none⟩ = some (.slice A zs.length cp) := fun wr h =>
      ⟨(h.cell (p := ⟨w.heap.size, 0, none⟩) (by simp)).trans (by simp [go_sem]), (h.cell (p := ⟨w.heap.size, 2, none⟩) (by simp)).trans (by simp [go_sem])⟩
    have HC := Lib.hid hcells
    have hsz : w.heap.size < (w.alloc (.cells #[.int .i64 nx, .int .i64 wd, .slice A zs.length cp, .int .i64 dn] 39)).heap.size := by simp
    clear hcells h hr
    go_enter Try.func36, Try.ntmps36
    go_wp2_with (first | (go_at_call 62; refine (between_any _ _ _ _).mono ?_; rintro e w' ⟨rfl, rfl⟩) | (fail))
    generalize hWe : w.alloc (.cells #[.int .i64 nx, .int .i64 wd, .slice A zs.length cp, .int .i64 dn] 39) = W at hr' hB0 HC hsz ⊢
    clear hWe
    go_loopw [32] (fun i wr => ∃ k : Nat, k ≤ zs.length ∧ i = .int .i64 k ∧ Hid (okTo nx zs k = true) ∧ Below W.heap.size W wr) (fun i _ => zs.length - (intOf i).toNat)
    case atStart => exact ⟨0, Nat.zero_le _, rfl, rfl, Below.refl _ _⟩
    case round =>
      obtain ⟨k, hk, rfl, hall, hB⟩ := hrel
      obtain ⟨y0, y2⟩ := HC.out _ hB
      have hBw : Below w.heap.size w wr := hB0.trans (hB.mono hB0.size)
      have hzW := hB.size
      by_cases hlt : k < zs.length
      · have k0 : (0 : Int) ≤ k := by omega
        have k1 : (k : Int) < zs.length := by omega
        have hl2 : w.heap.size < wr.heap.size := by omega
        obtain ⟨b, o, rfl, hb1, hcl⟩ := Rd.get cSent_len (hr'.below hB) rfl hlt
        have hc0 : wr.cell? ⟨b, o + k * 2, none⟩ = some (.int .i64 zs[k].f0) := hcl 0 _ (by omega) rfl
        have hc1 : wr.cell? ⟨b, o + k * 2 + 1, none⟩ = some (.string ⟨zs[k].f1.toArray⟩) := hcl 1 _ (by omega) rfl
        have htx : zs[k].f1.length ≤ 9223372036854775807 := hwf _ (List.getElem_mem hlt)
        have hel : elAt nx zs k = (inB (zs[k].f1.length : Int) 1 40 && (zs[k].f0 == (nx - zs.length + k + 256) % 256)) := by unfold elAt; simp [hlt]
        have hm : (nx - zs.length + k + 256).tmod 256 = (nx - zs.length + k + 256) % 256 := Int.tmod_eq_emod_of_nonneg (by omega)
        have hm0 : 0 ≤ (nx - zs.length + k + 256) % 256 ∧ (nx - zs.length + k + 256) % 256 ≤ 255 := by omega
        have hE : (nx - zs.length + k + 256) % 256 = (nx - zs.length + k) % 256 := by omega
        rw [hE] at hel hm hm0
        clear hcl hr' hE
        cases he : elAt nx zs k
        · have hf := Lib.hid (okTo_fail hlt he)
          rw [he] at hel
          clear he
          generalize zs[k].f0 = u0 at *
          generalize zs[k].f1 = u1 at *
          cases hx : inB (u1.length : Int) 1 40 <;> cases hx2 : (u0 == (nx - zs.length + k) % 256)
          all_goals first
            | (rw [hx, hx2] at hel; cases hel; done)
            | skip
          all_goals
            clear hel
            first | simp only [beq_iff_eq] at hx2 | (simp only [beq_eq_false_iff_ne] at hx2)
            go_wp2_with (first | (go_at_call 62; refine (between_any _ _ _ _).mono ?_; rintro e w' ⟨rfl, rfl⟩) | (fail))
            go_ret
            exact ⟨ret_bool (by rw [hc.out, hf.out]), hBw.alloc hBw.size _⟩
        · have hnext := Lib.hid (okTo_step hall.out he)
          rw [he] at hel
          have hx := hel.symm
          simp only [Bool.and_eq_true, beq_iff_eq] at hx
          obtain ⟨hx, hx2⟩ := hx
          clear hel he
          generalize zs[k].f0 = u0 at *
          generalize zs[k].f1 = u1 at *
          go_wp2_with (first | (go_at_call 62; refine (between_any _ _ _ _).mono ?_; rintro e w' ⟨rfl, rfl⟩) | (fail))
          go_roundw
          case rel => exact ⟨k + 1, by omega, by go_num, hnext.out, hB.alloc hB.size _⟩
          case measure => simp [intOf]; omega
      · obtain rfl : k = zs.length := by omega
        have hf := Lib.hid hall.out
        go_wp2
        go_ret
        exact ⟨ret_bool (by rw [hc.out, hf.out]), hBw⟩
theorem sSenderOk_any (nx wd : Int) (A : Option Addr) (n cp : Nat) (zs : List ESent) (dn : Int) (w : World) (hn : zs.length = n) (hb : n ≤ 1048577) (hwf : ∀ z ∈ zs, Txt z.f1) (hr : Rd w 2 A n (zs.flatMap cSent)) :
    Calls Try.prog 45 #[.agg #[.int .i64 nx, .int .i64 wd, .slice A n cp, .int .i64 dn]] w fun e w' => e = .returned (.bool (sndOk nx wd zs dn)) ∧ Below w.heap.size w w' := by
  subst hn
  cases h : sndPre nx wd zs.length dn
  · have hc := Lib.hid (show sndOk nx wd zs dn = false by unfold sndOk; rw [h]; rfl)
    have hk := Lib.hid h
    clear h
    go_enter Try.func45, Try.ntmps45
    go_wp2_with (go_at_call 61; refine (l01In_any _ _ _ _).mono ?_; rintro e w' ⟨rfl, rfl⟩)
    all_goals first
      | (go_ret; exact ⟨ret_bool hc.out.symm, (Below.refl _ _).alloc (Nat.le_refl _) _⟩)
      | (exfalso; have h9 := hk.out; clear hk hc; simp_all [sndPre] <;> omega)
  · have hc := Lib.hid (show sndOk nx wd zs dn = okTo nx zs zs.length by unfold sndOk; rw [h]; rfl)
    obtain ⟨p1, p2, p3, p4⟩ := sndPre_parts h
    have h1 : inB nx 0 255 = true := inB_mk p1.1 p1.2
    have h2 : inB wd 1 20 = true := inB_mk p2.1 p2.2
    have h3 : inB dn 0 1000000 = true := inB_mk p3.1 p3.2
    have hr' := hr.alloc (.cells #[.int .i64 nx, .int .i64 wd, .slice A zs.length cp, .int .i64 dn] 39)
    have hB0 : Below w.heap.size w (w.alloc (.cells #[.int .i64 nx, .int .i64 wd, .slice A zs.length cp, .int .i64 dn] 39)) := (Below.refl _ _).alloc (Nat.le_refl _) _
    have hcells : ∀ wr, Below (w.alloc (.cells #[.int .i64 nx, .int .i64 wd, .slice A zs.length cp, .int .i64 dn] 39)).heap.size (w.alloc (.cells #[.int .i64 nx, .int .i64 wd, .slice A zs.length cp, .int .i64 dn] 39)) wr → wr.cell? ⟨w.heap.size, 0, none⟩ = some (.int .i64 nx) ∧ wr.cell? ⟨w.heap.size, 2, none⟩ = some (.slice A zs.length cp) := fun wr h =>
      ⟨(h.cell (p := ⟨w.heap.size, 0, none⟩) (by simp)).trans (by simp [go_sem]), (h.cell (p := ⟨w.heap.size, 2, none⟩) (by simp)).trans (by simp [go_sem])⟩
    have HC := Lib.hid hcells
    have hsz : w.heap.size < (w.alloc (.cells #[.int .i64 nx, .int .i64 wd, .slice A zs.length cp, .int .i64 dn] 39)).heap.size := by simp
    clear hcells h hr
    go_enter Try.func45, Try.ntmps45
    go_wp2_with (first | (go_at_call 61; refine (l01In_any _ _ _ _).mono ?_; rintro e w' ⟨rfl, rfl⟩) | (fail))
    generalize hWe : w.alloc (.cells #[.int .i64 nx, .int .i64 wd, .slice A zs.length cp, .int .i64 dn] 39) = W at hr' hB0 HC hsz ⊢
    clear hWe
    go_loopw [4] (fun i wr => ∃ k : Nat, k ≤ zs.length ∧ i = .int .i64 k ∧ Hid (okTo nx zs k = true) ∧ Below W.heap.size W wr) (fun i _ => zs.length - (intOf i).toNat)
    case atStart => exact ⟨0, Nat.zero_le _, rfl, rfl, Below.refl _ _⟩
    case round =>
      obtain ⟨k, hk, rfl, hall, hB⟩ := hrel
      obtain ⟨y0, y2⟩ := HC.out _ hB
      have hBw : Below w.heap.size w wr := hB0.trans (hB.mono hB0.size)
      have hzW := hB.size
      by_cases hlt : k < zs.length
      · have k0 : (0 : Int) ≤ k := by omega
        have k1 : (k : Int) < zs.length := by omega
        have hl2 : w.heap.size < wr.heap.size := by omega
        obtain ⟨b, o, rfl, hb1, hcl⟩ := Rd.get cSent_len (hr'.below hB) rfl hlt
        have hc0 : wr.cell? ⟨b, o + k * 2, none⟩ = some (.int .i64 zs[k].f0) := hcl 0 _ (by omega) rfl
        have hc1 : wr.cell? ⟨b, o + k * 2 + 1, none⟩ = some (.string ⟨zs[k].f1.toArray⟩) := hcl 1 _ (by omega) rfl
        have htx : zs[k].f1.length ≤ 9223372036854775807 := hwf _ (List.getElem_mem hlt)
        have hel : elAt nx zs k = (inB (zs[k].f1.length : Int) 1 40 && (zs[k].f0 == (nx - zs.length + k + 256) % 256)) := by unfold elAt; simp [hlt]
        have hm : (nx - zs.length + k + 256).tmod 256 = (nx - zs.length + k + 256) % 256 := Int.tmod_eq_emod_of_nonneg (by omega)
        have hm0 : 0 ≤ (nx - zs.length + k + 256) % 256 ∧ (nx - zs.length + k + 256) % 256 ≤ 255 := by omega
        have hE : (nx - zs.length + k + 256) % 256 = (nx - zs.length + k) % 256 := by omega
        rw [hE] at hel hm hm0
        clear hcl hr' hE
        cases he : elAt nx zs k
        · have hf := Lib.hid (okTo_fail hlt he)
          rw [he] at hel
          clear he
          generalize zs[k].f0 = u0 at *
          generalize zs[k].f1 = u1 at *
          cases hx : inB (u1.length : Int) 1 40 <;> cases hx2 : (u0 == (nx - zs.length + k) % 256)
          all_goals first
            | (rw [hx, hx2] at hel; cases hel; done)
            | skip
          all_goals
            clear hel
            first | simp only [beq_iff_eq] at hx2 | (simp only [beq_eq_false_iff_ne] at hx2)
            go_wp2_with (first | (go_at_call 61; refine (l01In_any _ _ _ _).mono ?_; rintro e w' ⟨rfl, rfl⟩) | (fail))
            go_ret
            exact ⟨ret_bool (by rw [hc.out, hf.out]), hBw.alloc hBw.size _⟩
        · have hnext := Lib.hid (okTo_step hall.out he)
          rw [he] at hel
          have hx := hel.symm
          simp only [Bool.and_eq_true, beq_iff_eq] at hx
          obtain ⟨hx, hx2⟩ := hx
          clear hel he
          generalize zs[k].f0 = u0 at *
          generalize zs[k].f1 = u1 at *
          go_wp2_with (first | (go_at_call 61; refine (l01In_any _ _ _ _).mono ?_; rintro e w' ⟨rfl, rfl⟩) | (fail))
          go_roundw
          case rel => exact ⟨k + 1, by omega, by go_num, hnext.out, hB.alloc hB.size _⟩
          case measure => simp [intOf]; omega
      · obtain rfl : k = zs.length := by omega
        have hf := Lib.hid hall.out
        go_wp2
        go_ret
        exact ⟨ret_bool (by rw [hc.out, hf.out]), hBw⟩
end Go.Proofs.Ytpnejmlbfadaaaa
