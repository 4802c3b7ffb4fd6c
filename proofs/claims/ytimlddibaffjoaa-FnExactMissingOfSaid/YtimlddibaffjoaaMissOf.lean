/- Contracts: the missing segments of a file, in the program and in the reference. No condition. -/
import Derived.Test.YtimlddibaffjoaaFileInOk
import Derived.Test.YtimlddibaffjoaaSeg
import Derived.Test.YtimlddibaffjoaaAppend
import Derived.Test.YtimlddibaffjoaaMild
namespace Go.Proofs.Ytimlddibaffjoaa
open Go.RowKit

def missTo (zs : List (List UInt8)) (k : Nat) : List Int := ((List.range k).filter fun i => (zs.getD i []).isEmpty).map fun (i : Nat) => (i : Int)
/-- The missing segments. -/
def missL (a b c : Int) (zs : List (List UInt8)) : List Int := if fiOk a b c zs && b != -1 then (missTo zs (cseg b).toNat).take 20 else []
theorem missTo_zero (zs : List (List UInt8)) : missTo zs 0 = [] := rfl
theorem missTo_yes {zs : List (List UInt8)} {k : Nat} (hk : k < zs.length) (h : zs[k] = []) : missTo zs (k + 1) = missTo zs k ++ [(k : Int)] := by
  unfold missTo
  rw [List.range_succ, List.filter_append, List.map_append]
  have : (zs.getD k []).isEmpty = true := by simp [hk, h]
  simp only [List.filter_cons, this, if_true, List.filter_nil, List.map_cons, List.map_nil]
theorem missTo_no {zs : List (List UInt8)} {k : Nat} (hk : k < zs.length) (h : ¬ zs[k] = []) : missTo zs (k + 1) = missTo zs k := by
  unfold missTo
  rw [List.range_succ, List.filter_append, List.map_append]
  simp [hk, h]
theorem missTo_more {zs : List (List UInt8)} {k m : Nat} (h : k ≤ m) : ∃ r, missTo zs m = missTo zs k ++ r := by
  obtain ⟨d, rfl⟩ : ∃ d, m = k + d := ⟨m - k, by omega⟩
  unfold missTo
  rw [List.range_add, List.filter_append, List.map_append]
  exact ⟨_, rfl⟩
theorem missTo_take {zs : List (List UInt8)} {k m : Nat} (h : k ≤ m) (h1 : (missTo zs k).length = 20 ∨ k = m) (h2 : (missTo zs k).length ≤ 20) : (missTo zs m).take 20 = missTo zs k := by
  rcases h1 with h1 | rfl
  · obtain ⟨r, hr⟩ := missTo_more (zs := zs) h
    rw [hr, ← h1, List.take_left]
  · exact List.take_of_length_le h2
theorem missL_le (a b c : Int) (zs : List (List UInt8)) : (missL a b c zs).length ≤ 20 := by
  unfold missL
  split
  · rw [List.length_take]; omega
  · simp
theorem fi_len {a b c : Int} {zs : List (List UInt8)} (h : fiOk a b c zs = true) : zs.length = 25 ∧ b ≤ 600 := by
  unfold fiOk fiPre at h
  simp only [Bool.and_eq_true, beq_iff_eq] at h
  have := inB_true h.1.1.1.1.2
  omega

theorem own_base' {w : World} {base : Nat} {e : TypeId} {size n c : Nat} {A : Option Addr} {xs : List Value} (h : w.ownsRow base e size (.slice A n c) n xs) : w.ownsRow base e size (.slice A n c) n xs := h
theorem missingOf_any (a b c : Int) (A : Option Addr) (n cp : Nat) (zs : List (List UInt8)) (w : World) (hn : zs.length = n) (hb : n ≤ 1048576) (hwf : ∀ r ∈ zs, Txt r) (hr : Rd w 1 A n (zs.flatMap cS)) :
    Calls Try.prog 64 #[.agg #[.int .i64 a, .int .i64 b, .int .i64 c, .slice A n cp]] w fun e w' => ∃ B d, e = .returned (.slice B (missL a b c zs).length d) ∧ w'.ownsRow w.heap.size 3 1 (.slice B (missL a b c zs).length d) (missL a b c zs).length ((missL a b c zs).flatMap cI) ∧ Below w.heap.size w w' := by
  subst hn
  have hG := fun W (h : Below w.heap.size w W) => fileInOk_any a b c A zs.length cp zs W rfl hb hwf (hr.below h)
  have hB0 : Below w.heap.size w (w.alloc (.cells #[.int .i64 a, .int .i64 b, .int .i64 c, .slice A zs.length cp] 37)) := (Below.refl _ _).alloc (Nat.le_refl _) _
  cases hok : fiOk a b c zs
  · rw [hok] at hG
    have hc := Lib.hid (show missL a b c zs = [] by unfold missL; rw [hok]; rfl)
    go_enter Try.func64, Try.ntmps64
    go_wp2_with fail
    refine (hG _ hB0).mono ?_
    rintro e w1 ⟨rfl, hb1⟩
    have hown1 : w1.ownsRow (w.heap.size + 1) 3 1 (.slice none 0 0) 0 (([] : List Int).flatMap cI) := World.ownsRow_nil _ _ _ _; have hB1 := below_step hB0 hb1
    go_wp2
    go_ret
    rw [hc.out]
    exact ⟨_, _, rfl, own_base hown1 (by omega), hB1⟩
  by_cases hb1' : b = -1
  · rw [hok] at hG
    have hc := Lib.hid (show missL a b c zs = [] by unfold missL; rw [hok, hb1']; rfl)
    subst hb1'
    go_enter Try.func64, Try.ntmps64
    go_wp2_with fail
    refine (hG _ hB0).mono ?_
    rintro e w1 ⟨rfl, hb1⟩
    have hown1 : w1.ownsRow (w.heap.size + 1) 3 1 (.slice none 0 0) 0 (([] : List Int).flatMap cI) := World.ownsRow_nil _ _ _ _; have hB1 := below_step hB0 hb1
    obtain ⟨hcx, hfx⟩ := bcell hb1
    have x1 : w1.cell? ⟨w.heap.size, 1, none⟩ = some (.int .i64 (-1)) := by simp [hcx, go_sem]
    go_wp2
    go_ret
    rw [hc.out]
    exact ⟨_, _, rfl, own_base hown1 (by omega), hB1⟩
  have hne : (b == -1) = false := by simp [hb1']
  have hc := Lib.hid (show missL a b c zs = (missTo zs (cseg b).toNat).take 20 by unfold missL; rw [hok, show (b != -1) = true from by simp [hb1']]; rfl)
  obtain ⟨h25, h600⟩ := fi_len hok
  rw [hok] at hG
  have hs0 := cseg_lo b
  have hs1 := cseg_hi b
  have hCS := fun W => countSegments_any b W
  generalize cseg b = S at *
  have H25 := Lib.hid h25
  have hlen : zs.length ≤ 25 ∧ 25 ≤ zs.length := by omega
  clear h25 hok
  go_enter Try.func64, Try.ntmps64
  go_wp2_with fail
  refine (hG _ hB0).mono ?_
  rintro e w1 ⟨rfl, hb1⟩
  have hown1 : w1.ownsRow (w.heap.size + 1) 3 1 (.slice none 0 0) 0 (([] : List Int).flatMap cI) := World.ownsRow_nil _ _ _ _; have hB1 := below_step hB0 hb1
  obtain ⟨hcx, hfx⟩ := bcell hb1
  have x1 : w1.cell? ⟨w.heap.size, 1, none⟩ = some (.int .i64 b) := by simp [hcx, go_sem]
  have x3 : w1.cell? ⟨w.heap.size, 3, none⟩ = some (.slice A zs.length cp) := by simp [hcx, go_sem]
  have hz1 := hb1.size
  simp only [World.size_alloc] at hz1
  have hl1 : w.heap.size < w1.heap.size := by omega
  clear hcx hfx hb1
  have hcells : ∀ wr, Below w1.heap.size w1 wr → wr.cell? ⟨w.heap.size, 1, none⟩ = some (.int .i64 b) ∧ wr.cell? ⟨w.heap.size, 3, none⟩ = some (.slice A zs.length cp) := fun wr h => ⟨(h.cell (p := ⟨w.heap.size, 1, none⟩) hl1).trans x1, (h.cell (p := ⟨w.heap.size, 3, none⟩) hl1).trans x3⟩
  have HC := Lib.hid hcells
  clear hcells
  go_wp2
  clear x1 x3
  go_loopw [3, 4] (fun v i wr => ∃ (k : Nat) (xs : List Int) (B : Option Addr) (d : Nat), (k : Int) ≤ S ∧ i = .int .i64 k ∧ v = .slice B xs.length d ∧ xs.length ≤ 20 ∧ Hid (xs = missTo zs k) ∧ wr.ownsRow (w.heap.size + 1) 3 1 (.slice B xs.length d) xs.length (xs.flatMap cI) ∧ Below (w.heap.size + 1) w1 wr) (fun _ i _ => (S - intOf i).toNat)
  case atStart => exact ⟨0, [], _, _, by omega, rfl, rfl, Nat.zero_le _, rfl, own_base' hown1, Below.refl _ _⟩
  case round =>
    obtain ⟨k, xs, B, d, hk, rfl, rfl, hx20, hxs, hown, hB⟩ := hrel
    have hy1 : wr.cell? ⟨w.heap.size, 1, none⟩ = some (.int .i64 b) := (hB.cell (p := ⟨w.heap.size, 1, none⟩) (by simp)).trans (HC.out _ (Below.refl _ _)).1
    have hy3 : wr.cell? ⟨w.heap.size, 3, none⟩ = some (.slice A zs.length cp) := (hB.cell (p := ⟨w.heap.size, 3, none⟩) (by simp)).trans (HC.out _ (Below.refl _ _)).2
    have hBw : Below w.heap.size w wr := hB1.trans (hB.mono (by omega))
    by_cases hlt : (k : Int) < S
    · by_cases h20 : (xs.length : Int) < 20
      · have h20n : xs.length < 20 := by omega
        have hkl : k < zs.length := by omega
        have k0 : (0 : Int) ≤ k := by omega
        have k1 : (k : Int) < zs.length := by omega
        obtain ⟨b', o, rfl, _, hcl⟩ := (hr.below hBw).str rfl hkl
        have hsz := hB.size
        by_cases hz : zs[k] = []
        · have hnext := Lib.hid (show xs ++ [(k : Int)] = missTo zs (k + 1) by rw [missTo_yes hkl hz, ← hxs.out])
          rw [hz] at hcl
          go_wp2_with (first | (go_at_call 19; refine (hCS _).mono ?_; rintro e w' ⟨rfl, rfl⟩) | (at_builtin; refine wpList_append1 _ rfl (.tmp 31) (.tmp 33) 41 rfl 3 (.int .i64 0) 1 8 Try.underlying41 infoI64 rfl (by decide) (w.heap.size + 1) _ _ _ _ rfl hown [.int .i64 k] _ rfl rfl rfl (by simp [Value.oneCell']) (by omega) (by omega) ?_; intro g2 c2 w2 hown2 _ hb2))
          go_roundw
          case rel => exact ⟨k + 1, xs ++ [(k : Int)], some ⟨g2, 0, none⟩, c2, by omega, by go_num, by simp, by simp; omega, hnext.out, by simpa [cI] using hown2, hB.trans hb2⟩
          case measure => simp [intOf]; omega
        · have hnext := Lib.hid (show xs = missTo zs (k + 1) by rw [missTo_no hkl hz, ← hxs.out])
          have hz2 : (zs[k]).isEmpty = false := by simpa using hz
          generalize zs[k] = z at *
          go_wp2_with (go_at_call 19; refine (hCS _).mono ?_; rintro e w' ⟨rfl, rfl⟩)
          go_roundw
          case rel => exact ⟨k + 1, xs, B, d, by omega, by go_num, rfl, hx20, hnext.out, hown, hB⟩
          case measure => simp [intOf]; omega
      · have h20n : ¬ xs.length < 20 := by omega
        have hend : (missTo zs S.toNat).take 20 = xs := ?_
        have hcl := hc.out.trans hend
        have HE := Lib.hid hcl
        clear hcl hend
        · go_wp2_with (go_at_call 19; refine (hCS _).mono ?_; rintro e w' ⟨rfl, rfl⟩)
          go_ret
          rw [HE.out]
          exact ⟨B, d, rfl, own_base hown (by omega), hBw⟩
        · rw [hxs.out]
          exact missTo_take (by omega) (Or.inl (by rw [← hxs.out]; omega)) (by rw [← hxs.out]; omega)
    · have hend : (missTo zs S.toNat).take 20 = xs := ?_
      have hcl := hc.out.trans hend
      have HE := Lib.hid hcl
      clear hcl hend
      · go_wp2_with (go_at_call 19; refine (hCS _).mono ?_; rintro e w' ⟨rfl, rfl⟩)
        go_ret
        rw [HE.out]
        exact ⟨B, d, rfl, own_base hown (by omega), hBw⟩
      · rw [hxs.out]
        exact missTo_take (by omega) (Or.inr (by omega)) (by rw [← hxs.out]; omega)
theorem sMissingOf_any (a b c : Int) (A : Option Addr) (n cp : Nat) (zs : List (List UInt8)) (w : World) (hn : zs.length = n) (hb : n ≤ 1048576) (hwf : ∀ r ∈ zs, Txt r) (hr : Rd w 1 A n (zs.flatMap cS)) :
    Calls Try.prog 63 #[.agg #[.int .i64 a, .int .i64 b, .int .i64 c, .slice A n cp]] w fun e w' => ∃ B d, e = .returned (.slice B (missL a b c zs).length d) ∧ w'.ownsRow w.heap.size 3 1 (.slice B (missL a b c zs).length d) (missL a b c zs).length ((missL a b c zs).flatMap cI) ∧ Below w.heap.size w w' := by
  subst hn
  have hG := fun W (h : Below w.heap.size w W) => sFileInOk_any a b c A zs.length cp zs W rfl hb hwf (hr.below h)
  have hB0 : Below w.heap.size w (w.alloc (.cells #[.int .i64 a, .int .i64 b, .int .i64 c, .slice A zs.length cp] 37)) := (Below.refl _ _).alloc (Nat.le_refl _) _
  cases hok : fiOk a b c zs
  · rw [hok] at hG
    have hc := Lib.hid (show missL a b c zs = [] by unfold missL; rw [hok]; rfl)
    go_enter Try.func63, Try.ntmps63
    go_wp2_with fail
    refine (hG _ (hB0.alloc hB0.size (.cells #[] 3))).mono ?_
    rintro e w1 ⟨rfl, hb1⟩
    have hown1 : w1.ownsRow (w.heap.size + 1) 3 1 (.slice (some ⟨w.heap.size + 1, 0, none⟩) 0 0) 0 (([] : List Int).flatMap cI) := own_below (own_fresh _ _ _ _ _ (by simp) (by simp)) hb1; have hB1 := below_step (hB0.alloc hB0.size (.cells #[] 3)) hb1
    go_wp2
    go_ret
    rw [hc.out]
    exact ⟨_, _, rfl, own_base hown1 (by omega), hB1⟩
  by_cases hb1' : b = -1
  · rw [hok] at hG
    have hc := Lib.hid (show missL a b c zs = [] by unfold missL; rw [hok, hb1']; rfl)
    subst hb1'
    go_enter Try.func63, Try.ntmps63
    go_wp2_with fail
    refine (hG _ (hB0.alloc hB0.size (.cells #[] 3))).mono ?_
    rintro e w1 ⟨rfl, hb1⟩
    have hown1 : w1.ownsRow (w.heap.size + 1) 3 1 (.slice (some ⟨w.heap.size + 1, 0, none⟩) 0 0) 0 (([] : List Int).flatMap cI) := own_below (own_fresh _ _ _ _ _ (by simp) (by simp)) hb1; have hB1 := below_step (hB0.alloc hB0.size (.cells #[] 3)) hb1
    obtain ⟨hcx, hfx⟩ := bcell hb1
    have x1 : w1.cell? ⟨w.heap.size, 1, none⟩ = some (.int .i64 (-1)) := by simp [hcx, go_sem]
    go_wp2
    go_ret
    rw [hc.out]
    exact ⟨_, _, rfl, own_base hown1 (by omega), hB1⟩
  have hne : (b == -1) = false := by simp [hb1']
  have hc := Lib.hid (show missL a b c zs = (missTo zs (cseg b).toNat).take 20 by unfold missL; rw [hok, show (b != -1) = true from by simp [hb1']]; rfl)
  obtain ⟨h25, h600⟩ := fi_len hok
  rw [hok] at hG
  have hs0 := cseg_lo b
  have hs1 := cseg_hi b
  have hCS := fun W => sCountSegments_any b W
  generalize cseg b = S at *
  have H25 := Lib.hid h25
  have hlen : zs.length ≤ 25 ∧ 25 ≤ zs.length := by omega
  clear h25 hok
  go_enter Try.func63, Try.ntmps63
  go_wp2_with fail
  refine (hG _ (hB0.alloc hB0.size (.cells #[] 3))).mono ?_
  rintro e w1 ⟨rfl, hb1⟩
  have hown1 : w1.ownsRow (w.heap.size + 1) 3 1 (.slice (some ⟨w.heap.size + 1, 0, none⟩) 0 0) 0 (([] : List Int).flatMap cI) := own_below (own_fresh _ _ _ _ _ (by simp) (by simp)) hb1; have hB1 := below_step (hB0.alloc hB0.size (.cells #[] 3)) hb1
  obtain ⟨hcx, hfx⟩ := bcell hb1
  have x1 : w1.cell? ⟨w.heap.size, 1, none⟩ = some (.int .i64 b) := by simp [hcx, go_sem]
  have x3 : w1.cell? ⟨w.heap.size, 3, none⟩ = some (.slice A zs.length cp) := by simp [hcx, go_sem]
  have hz1 := hb1.size
  simp only [World.size_alloc] at hz1
  have hl1 : w.heap.size < w1.heap.size := by omega
  clear hcx hfx hb1
  have hcells : ∀ wr, Below w1.heap.size w1 wr → wr.cell? ⟨w.heap.size, 1, none⟩ = some (.int .i64 b) ∧ wr.cell? ⟨w.heap.size, 3, none⟩ = some (.slice A zs.length cp) := fun wr h => ⟨(h.cell (p := ⟨w.heap.size, 1, none⟩) hl1).trans x1, (h.cell (p := ⟨w.heap.size, 3, none⟩) hl1).trans x3⟩
  have HC := Lib.hid hcells
  clear hcells
  go_wp2
  clear x1 x3
  go_loopw [3, 4] (fun v i wr => ∃ (k : Nat) (xs : List Int) (B : Option Addr) (d : Nat), (k : Int) ≤ S ∧ i = .int .i64 k ∧ v = .slice B xs.length d ∧ xs.length ≤ 20 ∧ Hid (xs = missTo zs k) ∧ wr.ownsRow (w.heap.size + 1) 3 1 (.slice B xs.length d) xs.length (xs.flatMap cI) ∧ Below (w.heap.size + 1) w1 wr) (fun _ i _ => (S - intOf i).toNat)
  case atStart => exact ⟨0, [], _, _, by omega, rfl, rfl, Nat.zero_le _, rfl, own_base' hown1, Below.refl _ _⟩
  case round =>
    obtain ⟨k, xs, B, d, hk, rfl, rfl, hx20, hxs, hown, hB⟩ := hrel
    have hy1 : wr.cell? ⟨w.heap.size, 1, none⟩ = some (.int .i64 b) := (hB.cell (p := ⟨w.heap.size, 1, none⟩) (by simp)).trans (HC.out _ (Below.refl _ _)).1
    have hy3 : wr.cell? ⟨w.heap.size, 3, none⟩ = some (.slice A zs.length cp) := (hB.cell (p := ⟨w.heap.size, 3, none⟩) (by simp)).trans (HC.out _ (Below.refl _ _)).2
    have hBw : Below w.heap.size w wr := hB1.trans (hB.mono (by omega))
    by_cases hlt : (k : Int) < S
    · by_cases h20 : (xs.length : Int) < 20
      · have h20n : xs.length < 20 := by omega
        have hkl : k < zs.length := by omega
        have k0 : (0 : Int) ≤ k := by omega
        have k1 : (k : Int) < zs.length := by omega
        obtain ⟨b', o, rfl, _, hcl⟩ := (hr.below hBw).str rfl hkl
        have hsz := hB.size
        by_cases hz : zs[k] = []
        · have hnext := Lib.hid (show xs ++ [(k : Int)] = missTo zs (k + 1) by rw [missTo_yes hkl hz, ← hxs.out])
          rw [hz] at hcl
          go_wp2_with (first | (go_at_call 18; refine (hCS _).mono ?_; rintro e w' ⟨rfl, rfl⟩) | (at_builtin; refine wpList_append1 _ rfl (.tmp 33) (.tmp 35) 41 rfl 3 (.int .i64 0) 1 8 Try.underlying41 infoI64 rfl (by decide) (w.heap.size + 1) _ _ _ _ rfl hown [.int .i64 k] _ rfl rfl rfl (by simp [Value.oneCell']) (by omega) (by omega) ?_; intro g2 c2 w2 hown2 _ hb2))
          go_roundw
          case rel => exact ⟨k + 1, xs ++ [(k : Int)], some ⟨g2, 0, none⟩, c2, by omega, by go_num, by simp, by simp; omega, hnext.out, by simpa [cI] using hown2, hB.trans hb2⟩
          case measure => simp [intOf]; omega
        · have hnext := Lib.hid (show xs = missTo zs (k + 1) by rw [missTo_no hkl hz, ← hxs.out])
          have hz2 : (zs[k]).isEmpty = false := by simpa using hz
          generalize zs[k] = z at *
          go_wp2_with (go_at_call 18; refine (hCS _).mono ?_; rintro e w' ⟨rfl, rfl⟩)
          go_roundw
          case rel => exact ⟨k + 1, xs, B, d, by omega, by go_num, rfl, hx20, hnext.out, hown, hB⟩
          case measure => simp [intOf]; omega
      · have h20n : ¬ xs.length < 20 := by omega
        have hend : (missTo zs S.toNat).take 20 = xs := ?_
        have hcl := hc.out.trans hend
        have HE := Lib.hid hcl
        clear hcl hend
        · go_wp2_with (go_at_call 18; refine (hCS _).mono ?_; rintro e w' ⟨rfl, rfl⟩)
          go_ret
          rw [HE.out]
          exact ⟨B, d, rfl, own_base hown (by omega), hBw⟩
        · rw [hxs.out]
          exact missTo_take (by omega) (Or.inl (by rw [← hxs.out]; omega)) (by rw [← hxs.out]; omega)
    · have hend : (missTo zs S.toNat).take 20 = xs := ?_
      have hcl := hc.out.trans hend
      have HE := Lib.hid hcl
      clear hcl hend
      · go_wp2_with (go_at_call 18; refine (hCS _).mono ?_; rintro e w' ⟨rfl, rfl⟩)
        go_ret
        rw [HE.out]
        exact ⟨B, d, rfl, own_base hown (by omega), hBw⟩
      · rw [hxs.out]
        exact missTo_take (by omega) (Or.inr (by omega)) (by rw [← hxs.out]; omega)
end Go.Proofs.Ytimlddibaffjoaa
