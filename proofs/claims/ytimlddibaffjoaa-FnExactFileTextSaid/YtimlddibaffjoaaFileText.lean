/- Contracts: the text of a file, in the program and in the reference. No condition. -/
import Derived.Test.YtimlddibaffjoaaMissOf
import Derived.Test.YtimlddibaffjoaaCheck
namespace Go.Proofs.Ytimlddibaffjoaa
open Go.RowKit

def fullTo (zs : List (List UInt8)) (k : Nat) : Bool := (zs.take k).all fun p => !p.isEmpty
def ftText (b : Int) (zs : List (List UInt8)) : List UInt8 := (zs.take (cseg b).toNat).flatten
def ftOk (a b c : Int) (zs : List (List UInt8)) : Bool := fiOk a b c zs && b != -1 && fullTo zs (cseg b).toNat && decide (((ftText b zs).length : Int) = b) && decide ((crcOf (ftText b zs) : Int) = c)
def ftV (a b c : Int) (zs : List (List UInt8)) : Value := .tuple #[.string ⟨(if ftOk a b c zs then ftText b zs else []).toArray⟩, .bool (ftOk a b c zs)]
theorem ftV_no {a b c : Int} {zs : List (List UInt8)} (h : ftOk a b c zs = false) : ftV a b c zs = .tuple #[.string ⟨#[]⟩, .bool false] := by unfold ftV; rw [h]; rfl
theorem ftV_yes {a b c : Int} {zs : List (List UInt8)} (h : ftOk a b c zs = true) : ftV a b c zs = .tuple #[.string ⟨(ftText b zs).toArray⟩, .bool true] := by unfold ftV; rw [h]; rfl
theorem full_next {zs : List (List UInt8)} {k : Nat} (hk : k < zs.length) (h : fullTo zs k = true) (h1 : ¬ zs[k] = []) : fullTo zs (k + 1) = true := by
  unfold fullTo at h ⊢
  rw [List.take_succ_eq_append_getElem hk, List.all_append, h]
  simp [h1]
theorem full_fail {zs : List (List UInt8)} {k m : Nat} (hk : k < zs.length) (hm : k < m) (h1 : zs[k] = []) : fullTo zs m = false := by
  unfold fullTo
  rw [List.all_eq_false]
  exact ⟨[], List.mem_take_iff_getElem.2 ⟨k, by omega, h1⟩, by simp⟩
theorem text_next {zs : List (List UInt8)} {k : Nat} (hk : k < zs.length) : (zs.take (k + 1)).flatten = (zs.take k).flatten ++ zs[k] := by
  rw [List.take_succ_eq_append_getElem hk, List.flatten_append]
  simp
theorem short_at {zs : List (List UInt8)} {k : Nat} (h : shortAll zs = true) (hk : k < zs.length) : zs[k].length ≤ 24 := by
  unfold shortAll at h
  rw [List.all_eq_true] at h
  simpa using h zs[k] (List.getElem_mem hk)
theorem text_len {zs : List (List UInt8)} (h : shortAll zs = true) : ∀ k, k ≤ zs.length → (zs.take k).flatten.length ≤ 24 * k
  | 0, _ => by simp
  | k + 1, hk => by
    have := text_len h k (by omega)
    have := short_at h (show k < zs.length by omega)
    rw [text_next (by omega), List.length_append]
    omega
theorem fullTo_iff {zs : List (List UInt8)} : ∀ k, k ≤ zs.length → (fullTo zs k = true ↔ missTo zs k = [])
  | 0, _ => by simp [fullTo, missTo]
  | k + 1, hk => by
    have ih := fullTo_iff (zs := zs) k (by omega)
    by_cases hz : zs[k] = []
    · rw [missTo_yes (by omega) hz, full_fail (by omega) (by omega) hz]
      simp
    · rw [missTo_no (by omega) hz, ← ih]
      constructor
      · intro h
        unfold fullTo at h ⊢
        rw [List.take_succ_eq_append_getElem (by omega), List.all_append, Bool.and_eq_true] at h
        exact h.1
      · intro h
        exact full_next (by omega) h hz
theorem miss_full {a b c : Int} {zs : List (List UInt8)} (h : fiOk a b c zs = true) (hb : b ≠ -1) : fullTo zs (cseg b).toNat = decide ((missL a b c zs).length = 0) := by
  obtain ⟨h25, _⟩ := fi_len h
  have h1 := fullTo_iff (zs := zs) (cseg b).toNat (by have := cseg_hi b; omega)
  have e : missL a b c zs = (missTo zs (cseg b).toNat).take 20 := by unfold missL; rw [h, show (b != -1) = true from by simp [hb]]; rfl
  rw [e]
  cases hf : fullTo zs (cseg b).toNat with
  | true => rw [h1.1 hf]; rfl
  | false =>
    symm
    refine decide_eq_false fun h0 => ?_
    rw [List.length_take] at h0
    have : (missTo zs (cseg b).toNat).length = 0 := by omega
    have := h1.2 (List.length_eq_zero_iff.1 this)
    rw [hf] at this
    cases this

theorem fileText_any (a b c : Int) (A : Option Addr) (n cp : Nat) (zs : List (List UInt8)) (w : World) (hn : zs.length = n) (hb : n ≤ 1048576) (hwf : ∀ r ∈ zs, Txt r) (hr : Rd w 1 A n (zs.flatMap cS)) :
    Calls Try.prog 57 #[.agg #[.int .i64 a, .int .i64 b, .int .i64 c, .slice A n cp]] w fun e w' => e = .returned (ftV a b c zs) ∧ Below w.heap.size w w' := by
  subst hn
  have hG := fun W (h : Below w.heap.size w W) => fileInOk_any a b c A zs.length cp zs W rfl hb hwf (hr.below h)
  have hB0 : Below w.heap.size w (w.alloc (.cells #[.int .i64 a, .int .i64 b, .int .i64 c, .slice A zs.length cp] 37)) := (Below.refl _ _).alloc (Nat.le_refl _) _
  cases hok : fiOk a b c zs
  · rw [hok] at hG
    have hc := Lib.hid (ftV_no (show ftOk a b c zs = false by unfold ftOk; rw [hok]; rfl))
    go_enter Try.func57, Try.ntmps57
    go_wp2_with fail
    refine (hG _ hB0).mono ?_
    rintro e w1 ⟨rfl, hb1⟩
    have hB1 := below_step hB0 hb1
    go_wp2
    go_ret2
    exact ⟨by rw [hc.out]; rfl, hB1⟩
  by_cases hb1' : b = -1
  · rw [hok] at hG
    have hc := Lib.hid (ftV_no (show ftOk a b c zs = false by unfold ftOk; rw [hok, hb1']; rfl))
    subst hb1'
    go_enter Try.func57, Try.ntmps57
    go_wp2_with fail
    refine (hG _ hB0).mono ?_
    rintro e w1 ⟨rfl, hb1⟩
    have hB1 := below_step hB0 hb1
    obtain ⟨hcx, hfx⟩ := bcell hb1
    have x1 : w1.cell? ⟨w.heap.size, 1, none⟩ = some (.int .i64 (-1)) := by simp [hcx, go_sem]
    go_wp2
    go_ret2
    exact ⟨by rw [hc.out]; rfl, hB1⟩
  have hne : (b == -1) = false := by simp [hb1']
  have hnb : (b != -1) = true := by simp [hb1']
  obtain ⟨h25, h600⟩ := fi_len hok
  have hsh : shortAll zs = true := by unfold fiOk at hok; simp only [Bool.and_eq_true] at hok; exact hok.2
  have hO := Lib.hid (show ftOk a b c zs = (fullTo zs (cseg b).toNat && decide (((zs.take (cseg b).toNat).flatten.length : Int) = b) && decide ((crcOf (zs.take (cseg b).toNat).flatten : Int) = c)) by unfold ftOk ftText; rw [hok, hnb]; rfl)
  have hT := Lib.hid (show ftText b zs = (zs.take (cseg b).toNat).flatten from rfl)
  rw [hok] at hG
  have hs0 := cseg_lo b
  have hs1 := cseg_hi b
  have hCS := fun W => countSegments_any b W
  generalize cseg b = S at *
  have HS := Lib.hid hsh
  have hlen : zs.length ≤ 25 ∧ 25 ≤ zs.length := by omega
  clear h25 hok hnb hsh
  go_enter Try.func57, Try.ntmps57
  go_wp2_with fail
  refine (hG _ hB0).mono ?_
  rintro e w1 ⟨rfl, hb1⟩
  have hB1 := below_step hB0 hb1
  obtain ⟨hcx, hfx⟩ := bcell hb1
  have x1 : w1.cell? ⟨w.heap.size, 1, none⟩ = some (.int .i64 b) := by simp [hcx, go_sem]
  have x2 : w1.cell? ⟨w.heap.size, 2, none⟩ = some (.int .i64 c) := by simp [hcx, go_sem]
  have x3 : w1.cell? ⟨w.heap.size, 3, none⟩ = some (.slice A zs.length cp) := by simp [hcx, go_sem]
  have hz1 := hb1.size
  simp only [World.size_alloc] at hz1
  have hl1 : w.heap.size < w1.heap.size := by omega
  clear hcx hfx hb1
  go_wp2_with fail
  refine (hCS _).mono ?_
  rintro e w' ⟨rfl, rfl⟩
  go_wp2
  go_loop [4, 17] (fun t i => ∃ (k : Nat) (T : List UInt8), (k : Int) ≤ S ∧ i = .int .i64 k ∧ t = .string ⟨T.toArray⟩ ∧ Hid (T = (zs.take k).flatten) ∧ T.length ≤ 24 * k ∧ Hid (fullTo zs k = true)) (fun _ i => (S - intOf i).toNat)
  case atStart => exact ⟨0, [], by omega, rfl, rfl, rfl, by simp, rfl⟩
  case round =>
    obtain ⟨k, T, hk, rfl, rfl, hTe, htl, hfu⟩ := hrel
    by_cases hlt : (k : Int) < S
    · have hkl : k < zs.length := by omega
      have k0 : (0 : Int) ≤ k := by omega
      have k1 : (k : Int) < zs.length := by omega
      obtain ⟨b', o, rfl, _, hcl⟩ := (hr.below hB1).str rfl hkl
      by_cases hz : zs[k] = []
      · have hf := Lib.hid (show ftOk a b c zs = false by rw [hO.out, full_fail hkl (by omega) hz]; rfl)
        rw [hz] at hcl
        go_wp2
        go_ret2
        exact ⟨by rw [ftV_no hf.out]; rfl, hB1⟩
      · have hnext := Lib.hid (text_next hkl)
        have hfn := Lib.hid (full_next hkl hfu.out hz)
        have hz2 : (zs[k]).isEmpty = false := by simpa using hz
        have hzl := short_at HS.out hkl
        generalize zs[k] = z at *
        go_wp2
        go_round
        case rel => exact ⟨k + 1, T ++ z, by omega, by go_num, str_app rfl, Lib.hid (by rw [hnext.out, hTe.out]), by simp; omega, hfn.out⟩
        case measure => simp [intOf]; omega
    · have hkS : S.toNat = k := by omega
      have hO2 := Lib.hid (show ftOk a b c zs = (decide ((T.length : Int) = b) && decide ((crcOf T : Int) = c)) by rw [hO.out, hkS, hfu.out, Bool.true_and, ← hTe.out])
      have hT2 := Lib.hid (show ftText b zs = T by rw [hT.out, hkS, ← hTe.out])
      clear hO hT hkS
      clear hTe
      have hCk := fun W => checkOf_any T W (by omega)
      generalize crcOf T = C at *
      by_cases hLb : (T.length : Int) = b
      · have hLb1 : ((T.length : Int) != b) = false := by simp [hLb]
        have HL := Lib.hid hLb
        by_cases hCc : (C : Int) = c
        · have hok2 := Lib.hid (show ftOk a b c zs = true by rw [hO2.out, decide_eq_true hLb, decide_eq_true hCc]; rfl)
          have hCc1 : ((C : Int) != c) = false := by simp [hCc]
          clear hLb hCc
          go_wp2_with fail
          refine wp_region_bw (by kernel_rfl) (by kernel_rfl) ?_
          obtain ⟨uc, uf⟩ := bwcell (W := w1)
          repeat (go_big_quiet_step ((go_at_call 61; exact bw_same (hCk _))))
          refine wpQuiet_nil ?_
          rintro _ ⟨⟨w7, hb7⟩, rfl⟩
          clear uc uf
          obtain ⟨hc_w7, hf_w7⟩ := bcell hb7
          have hB7 := below_step hB1 hb7
          go_wp2
          go_ret2
          exact ⟨by rw [ftV_yes hok2.out, hT2.out]; rfl, hB7⟩
        · have hok2 := Lib.hid (show ftOk a b c zs = false by rw [hO2.out, decide_eq_false hCc, Bool.and_false])
          have hCc1 : ((C : Int) != c) = true := by simp [hCc]
          clear hLb hCc
          go_wp2_with fail
          refine wp_region_bw (by kernel_rfl) (by kernel_rfl) ?_
          obtain ⟨uc, uf⟩ := bwcell (W := w1)
          repeat (go_big_quiet_step ((go_at_call 61; exact bw_same (hCk _))))
          refine wpQuiet_nil ?_
          rintro _ ⟨⟨w7, hb7⟩, rfl⟩
          clear uc uf
          obtain ⟨hc_w7, hf_w7⟩ := bcell hb7
          have hB7 := below_step hB1 hb7
          go_wp2
          go_ret2
          exact ⟨by rw [ftV_no hok2.out]; rfl, hB7⟩
      · have hok2 := Lib.hid (show ftOk a b c zs = false by rw [hO2.out, decide_eq_false hLb]; rfl)
        have hLb1 : ((T.length : Int) != b) = true := by simp [hLb]
        clear hLb
        go_wp2_with fail
        refine wp_region_bw (by kernel_rfl) (by kernel_rfl) ?_
        obtain ⟨uc, uf⟩ := bwcell (W := w1)
        repeat (go_big_quiet_step ((go_at_call 61; exact bw_same (hCk _))))
        refine wpQuiet_nil ?_
        rintro _ ⟨⟨w7, hb7⟩, rfl⟩
        clear uc uf
        obtain ⟨hc_w7, hf_w7⟩ := bcell hb7
        have hB7 := below_step hB1 hb7
        go_wp2
        go_ret2
        exact ⟨by rw [ftV_no hok2.out]; rfl, hB7⟩

theorem sFileText_any (a b c : Int) (A : Option Addr) (n cp : Nat) (zs : List (List UInt8)) (w : World) (hn : zs.length = n) (hb : n ≤ 1048576) (hwf : ∀ r ∈ zs, Txt r) (hr : Rd w 1 A n (zs.flatMap cS)) :
    Calls Try.prog 56 #[.agg #[.int .i64 a, .int .i64 b, .int .i64 c, .slice A n cp]] w fun e w' => e = .returned (ftV a b c zs) ∧ Below w.heap.size w w' := by
  subst hn
  have hG := fun W (h : Below w.heap.size w W) => sFileInOk_any a b c A zs.length cp zs W rfl hb hwf (hr.below h)
  have hM := fun W (h : Below w.heap.size w W) => sMissingOf_any a b c A zs.length cp zs W rfl hb hwf (hr.below h)
  have hB0 : Below w.heap.size w (w.alloc (.cells #[.int .i64 a, .int .i64 b, .int .i64 c, .slice A zs.length cp] 37)) := (Below.refl _ _).alloc (Nat.le_refl _) _
  cases hok : fiOk a b c zs
  · rw [hok] at hG
    have hc := Lib.hid (ftV_no (show ftOk a b c zs = false by unfold ftOk; rw [hok]; rfl))
    go_enter Try.func56, Try.ntmps56
    go_wp2_with fail
    refine (hG _ hB0).mono ?_
    rintro e w1 ⟨rfl, hb1⟩
    have hB1 := below_step hB0 hb1
    go_wp2
    go_ret2
    exact ⟨by rw [hc.out]; rfl, hB1⟩
  by_cases hb1' : b = -1
  · rw [hok] at hG
    have hc := Lib.hid (ftV_no (show ftOk a b c zs = false by unfold ftOk; rw [hok, hb1']; rfl))
    subst hb1'
    go_enter Try.func56, Try.ntmps56
    go_wp2_with fail
    refine (hG _ hB0).mono ?_
    rintro e w1 ⟨rfl, hb1⟩
    have hB1 := below_step hB0 hb1
    obtain ⟨hcx, hfx⟩ := bcell hb1
    have x1 : w1.cell? ⟨w.heap.size, 1, none⟩ = some (.int .i64 (-1)) := by simp [hcx, go_sem]
    go_wp2
    go_ret2
    exact ⟨by rw [hc.out]; rfl, hB1⟩
  have hne : (b == -1) = false := by simp [hb1']
  have hnb : (b != -1) = true := by simp [hb1']
  obtain ⟨h25, h600⟩ := fi_len hok
  have hsh : shortAll zs = true := by unfold fiOk at hok; simp only [Bool.and_eq_true] at hok; exact hok.2
  have hO := Lib.hid (show ftOk a b c zs = (decide ((missL a b c zs).length = 0) && decide (((zs.take (cseg b).toNat).flatten.length : Int) = b) && decide ((crcOf (zs.take (cseg b).toNat).flatten : Int) = c)) by unfold ftOk ftText; rw [miss_full hok hb1', hok, hnb]; rfl)
  have hT := Lib.hid (show ftText b zs = (zs.take (cseg b).toNat).flatten from rfl)
  rw [hok] at hG
  have hs0 := cseg_lo b
  have hs1 := cseg_hi b
  have hCS := fun W => sCountSegments_any b W
  generalize cseg b = S at *
  have HS := Lib.hid hsh
  have hlen : zs.length ≤ 25 ∧ 25 ≤ zs.length := by omega
  clear h25 hok hnb hsh
  generalize missL a b c zs = L at hM hO
  go_enter Try.func56, Try.ntmps56
  go_wp2_with fail
  refine (hG _ hB0).mono ?_
  rintro e w1 ⟨rfl, hb1⟩
  have hB1 := below_step hB0 hb1
  obtain ⟨hcx, hfx⟩ := bcell hb1
  have u0 : w1.cell? ⟨w.heap.size, 0, none⟩ = some (.int .i64 a) := by simp [hcx, go_sem]
  have u1 : w1.cell? ⟨w.heap.size, 1, none⟩ = some (.int .i64 b) := by simp [hcx, go_sem]
  have u2 : w1.cell? ⟨w.heap.size, 2, none⟩ = some (.int .i64 c) := by simp [hcx, go_sem]
  have u3 : w1.cell? ⟨w.heap.size, 3, none⟩ = some (.slice A zs.length cp) := by simp [hcx, go_sem]
  have hz1 := hb1.size
  simp only [World.size_alloc] at hz1
  have hl0 : w.heap.size < w1.heap.size := by omega
  clear hcx hfx hb1
  go_wp2_with fail
  refine (hM _ hB1).mono ?_
  rintro e w2 ⟨B, d, rfl, hown, hb2⟩
  have hB2 := below_step hB1 hb2
  obtain ⟨hcy, hfy⟩ := bcell hb2
  have x1 := (hcy _ 1 hl0).trans u1
  have x2 := (hcy _ 2 hl0).trans u2
  have x3 := (hcy _ 3 hl0).trans u3
  have hz2 := hb2.size
  have hl1 : w.heap.size < w2.heap.size := by omega
  clear hcy hfy hb2 u0 u1 u2 u3 hown hM hG hB1
  by_cases hL : 0 < (L.length : Int)
  · have hf := Lib.hid (show ftOk a b c zs = false by rw [hO.out, decide_eq_false (by omega)]; rfl)
    have hL2 : 0 < L.length := by omega
    go_wp2
    go_ret2
    exact ⟨by rw [ftV_no hf.out]; rfl, hB2⟩
  have hL2 : ¬ 0 < L.length := by omega
  have hO1 := Lib.hid (show ftOk a b c zs = (decide (((zs.take S.toNat).flatten.length : Int) = b) && decide ((crcOf (zs.take S.toNat).flatten : Int) = c)) by rw [hO.out, decide_eq_true (by omega), Bool.true_and])
  clear hO
  go_wp2
  go_loop [4, 5] (fun t i => ∃ (k : Nat) (T : List UInt8), (k : Int) ≤ S ∧ i = .int .i64 k ∧ t = .string ⟨T.toArray⟩ ∧ Hid (T = (zs.take k).flatten) ∧ T.length ≤ 24 * k) (fun _ i => (S - intOf i).toNat)
  case atStart => exact ⟨0, [], by omega, rfl, rfl, rfl, by simp⟩
  case round =>
    obtain ⟨k, T, hk, rfl, rfl, hTe, htl⟩ := hrel
    by_cases hlt : (k : Int) < S
    · have hkl : k < zs.length := by omega
      have k0 : (0 : Int) ≤ k := by omega
      have k1 : (k : Int) < zs.length := by omega
      obtain ⟨b', o, rfl, _, hcl⟩ := (hr.below hB2).str rfl hkl
      have hnext := Lib.hid (text_next hkl)
      have hzl := short_at HS.out hkl
      generalize zs[k] = z at *
      go_wp2_with (go_at_call 18; refine (hCS _).mono ?_; rintro e w' ⟨rfl, rfl⟩)
      go_round
      case rel => exact ⟨k + 1, T ++ z, by omega, by go_num, str_app rfl, Lib.hid (by rw [hnext.out, hTe.out]), by simp; omega⟩
      case measure => simp [intOf]; omega
    · have hkS : S.toNat = k := by omega
      have hO2 := Lib.hid (show ftOk a b c zs = (decide ((T.length : Int) = b) && decide ((crcOf T : Int) = c)) by rw [hO1.out, hkS, ← hTe.out])
      have hT2 := Lib.hid (show ftText b zs = T by rw [hT.out, hkS, ← hTe.out])
      clear hO1 hT hkS
      clear hTe
      have hCk := fun W => sCheckOf_any T W (by omega)
      generalize crcOf T = C at *
      go_wp2_with fail
      refine (hCS _).mono ?_
      rintro e w' ⟨rfl, rfl⟩
      by_cases hLb : (T.length : Int) = b
      · have hLb1 : ((T.length : Int) != b) = false := by simp [hLb]
        have HL := Lib.hid hLb
        by_cases hCc : (C : Int) = c
        · have hok2 := Lib.hid (show ftOk a b c zs = true by rw [hO2.out, decide_eq_true hLb, decide_eq_true hCc]; rfl)
          have hCc1 : ((C : Int) != c) = false := by simp [hCc]
          clear hLb hCc
          go_wp2_with fail
          refine wp_region_bw (by kernel_rfl) (by kernel_rfl) ?_
          obtain ⟨uc, uf⟩ := bwcell (W := w2)
          repeat (go_big_quiet_step ((go_at_call 71; exact bw_same (hCk _))))
          refine wpQuiet_nil ?_
          rintro _ ⟨⟨w7, hb7⟩, rfl⟩
          clear uc uf
          obtain ⟨hc_w7, hf_w7⟩ := bcell hb7
          have hB7 := below_step hB2 hb7
          go_wp2
          go_ret2
          exact ⟨by rw [ftV_yes hok2.out, hT2.out]; rfl, hB7⟩
        · have hok2 := Lib.hid (show ftOk a b c zs = false by rw [hO2.out, decide_eq_false hCc, Bool.and_false])
          have hCc1 : ((C : Int) != c) = true := by simp [hCc]
          clear hLb hCc
          go_wp2_with fail
          refine wp_region_bw (by kernel_rfl) (by kernel_rfl) ?_
          obtain ⟨uc, uf⟩ := bwcell (W := w2)
          repeat (go_big_quiet_step ((go_at_call 71; exact bw_same (hCk _))))
          refine wpQuiet_nil ?_
          rintro _ ⟨⟨w7, hb7⟩, rfl⟩
          clear uc uf
          obtain ⟨hc_w7, hf_w7⟩ := bcell hb7
          have hB7 := below_step hB2 hb7
          go_wp2
          go_ret2
          exact ⟨by rw [ftV_no hok2.out]; rfl, hB7⟩
      · have hok2 := Lib.hid (show ftOk a b c zs = false by rw [hO2.out, decide_eq_false hLb]; rfl)
        have hLb1 : ((T.length : Int) != b) = true := by simp [hLb]
        clear hLb
        go_wp2_with fail
        refine wp_region_bw (by kernel_rfl) (by kernel_rfl) ?_
        obtain ⟨uc, uf⟩ := bwcell (W := w2)
        repeat (go_big_quiet_step ((go_at_call 71; exact bw_same (hCk _))))
        refine wpQuiet_nil ?_
        rintro _ ⟨⟨w7, hb7⟩, rfl⟩
        clear uc uf
        obtain ⟨hc_w7, hf_w7⟩ := bcell hb7
        have hB7 := below_step hB2 hb7
        go_wp2
        go_ret2
        exact ⟨by rw [ftV_no hok2.out]; rfl, hB7⟩
end Go.Proofs.Ytimlddibaffjoaa
