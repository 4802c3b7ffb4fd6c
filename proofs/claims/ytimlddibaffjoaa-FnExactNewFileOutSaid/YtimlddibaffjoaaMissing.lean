/- Contracts: the list of missing segments as bytes, and back. No condition. -/
import Derived.Test.YtimlddibaffjoaaSeg
import Derived.Test.YtimlddibaffjoaaWord
import Derived.Test.YtimlddibaffjoaaAllB
namespace Go.Proofs.Ytimlddibaffjoaa
open Go.RowKit

/-- The bytes of a list of missing segments. -/
def encMiss (f : Int) (zs : List Int) : List UInt8 := if inB f 0 7 && decide (zs.length ≤ 20) && allB zs 0 24 then pw1 f ++ zs.flatMap pw1 else []
theorem flat_take {zs : List Int} {k : Nat} (hk : k < zs.length) : (zs.take (k + 1)).flatMap pw1 = (zs.take k).flatMap pw1 ++ pw1 zs[k] := by
  rw [List.take_succ_eq_append_getElem hk, List.flatMap_append, List.flatMap_cons, List.flatMap_nil, List.append_nil]
theorem flat_len (zs : List Int) : (zs.flatMap pw1).length = zs.length := by
  induction zs with
  | nil => rfl
  | cons z zs ih => rw [List.flatMap_cons, List.length_append, ih, pw1_len, List.length_cons]; omega

theorem encodeMissing_any (f : Int) (A : Option Addr) (n c : Nat) (zs : List Int) (w : World) (hn : zs.length = n) (hm : n ≤ 9223372036854775807) (hr : Rd w 1 A n (zs.flatMap cI)) :
    Calls Try.prog 37 #[.int .i64 f, .slice A n c] w fun e w' => e = .returned (.string ⟨(encMiss f zs).toArray⟩) ∧ Below w.heap.size w w' := by
  subst hn
  cases h : (inB f 0 7 && decide (zs.length ≤ 20) && allB zs 0 24)
  · have hc := Lib.hid (show encMiss f zs = [] by unfold encMiss; rw [h]; rfl)
    have hk := Lib.hid h
    clear h
    go_enter Try.func37, Try.ntmps37
    go_wp2_with (first | (go_at_call 66; refine (between_any _ _ _ _).mono ?_; rintro e w' ⟨rfl, rfl⟩) | (go_at_call 75; refine (allBetween_any _ _ _ zs _ _ _ rfl hm hr).mono ?_; rintro e w' ⟨rfl, rfl⟩))
    all_goals first
      | (go_ret; exact ⟨ret_str hc.out.symm, Below.refl _ _⟩)
      | (exfalso; have h9 := hk.out; clear hk hc; simp_all; omega)
  · have hc := Lib.hid (show encMiss f zs = pw1 f ++ zs.flatMap pw1 by unfold encMiss; rw [h]; rfl)
    simp only [Bool.and_eq_true, decide_eq_true_eq] at h
    obtain ⟨⟨h1, h2⟩, h3⟩ := h
    have b1 := inB_true h1
    have hB := Below.refl w.heap.size w
    go_enter Try.func37, Try.ntmps37
    go_wp2_with (first | (go_at_call 66; refine (between_any _ _ _ _).mono ?_; rintro e w' ⟨rfl, rfl⟩) | (go_at_call 75; refine (allBetween_any _ _ _ zs _ _ _ rfl hm hr).mono ?_; rintro e w' ⟨rfl, rfl⟩) | (go_at_call 68; refine (putWord_any _ _ _ (by omega) (by omega)).mono ?_; rintro e w' ⟨rfl, hb⟩; replace hB := hB.trans (hb.mono hB.size); clear hb))
    go_loopw [5, 25] (fun s i wr => ∃ (k : Nat) (t : List UInt8), k ≤ zs.length ∧ i = .int .i64 k ∧ s = .string ⟨t.toArray⟩ ∧ Hid (t = pw1 f ++ (zs.take k).flatMap pw1) ∧ t.length ≤ k + 1 ∧ Below w.heap.size w wr) (fun _ i _ => zs.length - (intOf i).toNat)
    case atStart => exact ⟨0, pw1 f, Nat.zero_le _, rfl, rfl, Lib.hid (by simp), by simp [pw1], hB⟩
    case round =>
      obtain ⟨k, t, hk, rfl, rfl, ht, htl, hB'⟩ := hrel
      clear hB
      have hB := hB'
      clear hB'
      by_cases hlt : k < zs.length
      · have hz := allB_get h3 hlt
        have hnext := Lib.hid (flat_take hlt)
        have hr' := hr.below hB
        obtain ⟨b, o, rfl, hb, hcl⟩ := hr'.int rfl hlt
        clear hr hr'
        go_wp2_with (go_at_call 68; refine (putWord_any _ _ _ (by omega) (by omega)).mono ?_; rintro e w' ⟨rfl, hb⟩; replace hB := hB.trans (hb.mono hB.size); clear hb)
        go_roundw
        case rel => exact ⟨k + 1, t ++ pw1 zs[k], by omega, by go_num, by first | rfl | simp, Lib.hid (by rw [ht.out, hnext.out, List.append_assoc]), by simp [pw1]; omega, hB⟩
        case measure => simp [intOf]; omega
      · obtain rfl : k = zs.length := by omega
        go_wp2
        go_ret
        exact ⟨ret_str (by rw [hc.out, ht.out, List.take_length]), hB⟩

theorem sEncodeMissing_any (f : Int) (A : Option Addr) (n c : Nat) (zs : List Int) (w : World) (hn : zs.length = n) (hm : n ≤ 9223372036854775807) (hr : Rd w 1 A n (zs.flatMap cI)) :
    Calls Try.prog 35 #[.int .i64 f, .slice A n c] w fun e w' => e = .returned (.string ⟨(encMiss f zs).toArray⟩) ∧ Below w.heap.size w w' := by
  subst hn
  cases h : (inB f 0 7 && decide (zs.length ≤ 20))
  · have hc := Lib.hid (show encMiss f zs = [] by unfold encMiss; rw [h]; rfl)
    have hk := Lib.hid h
    clear h
    go_enter Try.func35, Try.ntmps35
    go_wp2_with (go_at_call 65; refine (l01In_any _ _ _ _).mono ?_; rintro e w' ⟨rfl, rfl⟩)
    all_goals first
      | (go_ret; exact ⟨ret_str hc.out.symm, Below.refl _ _⟩)
      | (exfalso; have h9 := hk.out; clear hk hc; simp_all; omega)
  · have hc : Hid (encMiss f zs = if allB zs 0 24 then pw1 f ++ zs.flatMap pw1 else []) := Lib.hid (by unfold encMiss; rw [h, Bool.true_and])
    simp only [Bool.and_eq_true, decide_eq_true_eq] at h
    obtain ⟨h1, h2⟩ := h
    have b1 := inB_true h1
    have hB := Below.refl w.heap.size w
    go_enter Try.func35, Try.ntmps35
    go_wp2_with (first | (go_at_call 65; refine (l01In_any _ _ _ _).mono ?_; rintro e w' ⟨rfl, rfl⟩) | (go_at_call 67; refine (sPutWord_any _ _ _ (by omega) (by omega)).mono ?_; rintro e w' ⟨rfl, hb⟩; replace hB := hB.trans (hb.mono hB.size); clear hb))
    go_loopw [5, 6] (fun s i wr => ∃ (k : Nat) (t : List UInt8), k ≤ zs.length ∧ i = .int .i64 k ∧ s = .string ⟨t.toArray⟩ ∧ Hid (t = pw1 f ++ (zs.take k).flatMap pw1) ∧ t.length ≤ k + 1 ∧ Hid (allB (zs.take k) 0 24 = true) ∧ Below w.heap.size w wr) (fun _ i _ => zs.length - (intOf i).toNat)
    case atStart => exact ⟨0, pw1 f, Nat.zero_le _, rfl, rfl, Lib.hid (by simp), by simp [pw1], rfl, hB⟩
    case round =>
      obtain ⟨k, t, hk, rfl, rfl, ht, htl, hall, hB'⟩ := hrel
      clear hB
      have hB := hB'
      clear hB'
      by_cases hlt : k < zs.length
      · have hr' := hr.below hB
        obtain ⟨b, o, rfl, hb, hcl⟩ := hr'.int rfl hlt
        clear hr hr'
        cases hin : inB zs[k] 0 24
        · have hf := Lib.hid (allB_fail hlt hin)
          go_wp2_with (go_at_call 65; refine (l01In_any _ _ _ _).mono ?_; rintro e w' ⟨rfl, rfl⟩)
          go_ret
          exact ⟨ret_str (by rw [hc.out, hf.out]; rfl), hB⟩
        · have hz := inB_true hin
          have hnext := Lib.hid (flat_take hlt)
          have hnall := Lib.hid (allB_take hlt hall.out hin)
          go_wp2_with (first | (go_at_call 65; refine (l01In_any _ _ _ _).mono ?_; rintro e w' ⟨rfl, rfl⟩) | (go_at_call 67; refine (sPutWord_any _ _ _ (by omega) (by omega)).mono ?_; rintro e w' ⟨rfl, hb⟩; replace hB := hB.trans (hb.mono hB.size); clear hb))
          go_roundw
          case rel => exact ⟨k + 1, t ++ pw1 zs[k], by omega, by go_num, by first | rfl | simp, Lib.hid (by rw [ht.out, hnext.out, List.append_assoc]), by simp [pw1]; omega, hnall.out, hB⟩
          case measure => simp [intOf]; omega
      · obtain rfl : k = zs.length := by omega
        have hf := Lib.hid (show allB zs 0 24 = true by have := hall.out; rwa [List.take_length] at this)
        go_wp2
        go_ret
        exact ⟨ret_str (by rw [hc.out, hf.out, ht.out, List.take_length]; rfl), hB⟩

/-- Whether bytes are those of a list of missing segments; the list. -/
def decMissOk (l : List UInt8) : Bool := inB l.length 1 21 && decide (nth l 0 ≤ 7) && allB (l.tail.map num) 0 24
def dmF (l : List UInt8) : Int := if decMissOk l then nth l 0 else 0
def dmL (l : List UInt8) : List Int := if decMissOk l then l.tail.map num else []
theorem dm_no {l : List UInt8} (h : decMissOk l = false) : dmF l = 0 ∧ dmL l = [] := by unfold dmF dmL; rw [h]; exact ⟨rfl, rfl⟩
theorem dm_yes {l : List UInt8} (h : decMissOk l = true) : dmF l = nth l 0 ∧ dmL l = l.tail.map num := by unfold dmF dmL; rw [h]; exact ⟨rfl, rfl⟩
theorem tail_get {l : List UInt8} {k : Nat} (hk : k < (l.tail.map num).length) : nth l ((k : Int) + 1) = (l.tail.map num)[k] := by
  have h : k + 1 < l.length := by simp at hk; omega
  have e : ((k : Int) + 1) = ((k + 1 : Nat) : Int) := by omega
  rw [e, nth_of_lt l (k + 1) h, List.getElem_map, List.getElem_tail]

theorem decodeMissing_any (l : List UInt8) (w : World) (hl : Txt l) :
    Calls Try.prog 40 #[.string ⟨l.toArray⟩] w fun e w' => ∃ A c, e = .returned (.tuple #[.int .i64 (dmF l), .slice A (dmL l).length c, .bool (decMissOk l)]) ∧ w'.ownsRow w.heap.size 3 1 (.slice A (dmL l).length c) (dmL l).length ((dmL l).flatMap cI) ∧ Below w.heap.size w w' := by
  unfold Txt at hl
  have hnil : ∀ (w' : World), dmL l = [] → w'.ownsRow w.heap.size 3 1 (.slice none (dmL l).length 0) (dmL l).length ((dmL l).flatMap cI) := fun w' h => by rw [h]; exact World.ownsRow_nil _ _ _ _
  have hnil' := Lib.hid hnil
  clear hnil
  by_cases hok : inB l.length 1 21 = true ∧ nth l 0 ≤ 7
  · obtain ⟨hb, h7⟩ := hok
    have hbb := inB_true hb
    have hzl : (l.tail.map num).length + 1 = l.length := by simp; omega
    have hdm : Hid (decMissOk l = allB (l.tail.map num) 0 24) := Lib.hid (by unfold decMissOk; rw [hb]; simp [h7])
    have h0i : (0 : Int) < l.length := by omega
    generalize hzs : l.tail.map num = zs at hzl hdm
    have HZ := Lib.hid hzs
    clear hzs
    go_enter Try.func40, Try.ntmps40
    go_wp2_with (go_at_call 66; refine (between_any _ _ _ _).mono ?_; rintro e w' ⟨rfl, rfl⟩)
    go_loopw [5, 6] (fun v i wr => ∃ (k : Nat) (A : Option Addr) (c : Nat), k ≤ zs.length ∧ i = .int .i64 ((k : Int) + 1) ∧ v = .slice A k c ∧ wr.ownsRow w.heap.size 3 1 (.slice A k c) k ((zs.take k).flatMap cI) ∧ Hid (allB (zs.take k) 0 24 = true) ∧ Below w.heap.size w wr) (fun _ i _ => zs.length + 1 - (intOf i).toNat)
    case atStart => exact ⟨0, none, 0, Nat.zero_le _, rfl, rfl, World.ownsRow_nil _ _ _ _, rfl, Below.refl _ _⟩
    case round =>
      obtain ⟨k, A, c, hk, rfl, rfl, hown, hall, hB⟩ := hrel
      by_cases hlt : k < zs.length
      · have hg : nth l ((k : Int) + 1) = zs[k] := by
          have := HZ.out
          subst this
          exact tail_get hlt
        have hglo := nth_lo l ((k : Int) + 1)
        rw [hg] at hglo
        cases hin : inB zs[k] 0 24
        · have hno : decMissOk l = false := by rw [hdm.out]; exact allB_fail hlt hin
          have hc := Lib.hid (dm_no hno)
          have hno' := Lib.hid hno
          clear hno
          have h24 : 24 < zs[k] := by have := inB_false hin; omega
          go_wp2
          go_ret3
          exact ⟨none, 0, ret_isb hc.out.1.symm (by rw [hc.out.2]; rfl) hno'.out.symm, hnil'.out _ hc.out.2, hB⟩
        · have h24 : zs[k] ≤ 24 := (inB_true hin).2
          have hnall := Lib.hid (allB_take hlt hall.out hin)
          have hnext := Lib.hid (flatMap_take cI hlt)
          have hsz : w.heap.size ≤ wr.heap.size := hB.size
          go_wp2_with (at_builtin; refine wpList_append1 _ rfl (.tmp 26) (.tmp 31) 41 rfl 3 (.int .i64 0) 1 8 Try.underlying41 infoI64 rfl (by decide) w.heap.size _ _ _ _ rfl hown [.int .i64 zs[k]] _ rfl rfl rfl (by simp [Value.oneCell']) (by omega) hsz ?_; intro g1 c1 w1 hown1 _ hb1)
          go_roundw
          case rel => exact ⟨k + 1, some ⟨g1, 0, none⟩, c1, by omega, by go_num, rfl, by rw [hnext.out]; exact hown1, hnall.out, hB.trans hb1⟩
          case measure => simp [intOf]; omega
      · obtain rfl : k = zs.length := by omega
        have hyes : decMissOk l = true := by rw [hdm.out]; have := hall.out; rwa [List.take_length] at this
        have hc := Lib.hid (dm_yes hyes)
        have hyes' := Lib.hid hyes
        clear hyes
        have hown' : wr.ownsRow w.heap.size 3 1 (.slice A (dmL l).length c) (dmL l).length ((dmL l).flatMap cI) := by
          rw [hc.out.2, HZ.out]
          rwa [List.take_length] at hown
        have hown'' := Lib.hid hown'
        clear hown' hown
        go_wp2
        go_ret3
        exact ⟨A, c, ret_isb hc.out.1.symm (by rw [hc.out.2, HZ.out]; rfl) hyes'.out.symm, hown''.out, hB⟩
  · have hno : decMissOk l = false := by
      cases hh : decMissOk l
      · rfl
      · simp only [decMissOk, Bool.and_eq_true, decide_eq_true_eq] at hh
        exact absurd hh.1 hok
    have hc := Lib.hid (dm_no hno)
    have hno' := Lib.hid hno
    clear hno
    cases hb : inB l.length 1 21
    · clear hok
      go_enter Try.func40, Try.ntmps40
      go_wp2_with (go_at_call 66; refine (between_any _ _ _ _).mono ?_; rintro e w' ⟨rfl, rfl⟩)
      go_ret3
      exact ⟨none, 0, ret_isb hc.out.1.symm (by rw [hc.out.2]; rfl) hno'.out.symm, hnil'.out _ hc.out.2, Below.refl _ _⟩
    · have h7 : 7 < nth l 0 := by
        have : ¬ nth l 0 ≤ 7 := fun e => hok ⟨hb, e⟩
        omega
      have hbb := inB_true hb
      clear hok
      have h0i : (0 : Int) < l.length := by omega
      go_enter Try.func40, Try.ntmps40
      go_wp2_with (go_at_call 66; refine (between_any _ _ _ _).mono ?_; rintro e w' ⟨rfl, rfl⟩)
      go_ret3
      exact ⟨none, 0, ret_isb hc.out.1.symm (by rw [hc.out.2]; rfl) hno'.out.symm, hnil'.out _ hc.out.2, Below.refl _ _⟩

/-- The bytes of what was read are what was read, exactly where they are a list's. -/
theorem decMiss_enc {l : List UInt8} (hne : l ≠ []) : (encMiss (nth l 0) (l.tail.map num) = l) ↔ decMissOk l = true := by
  match l, hne with
  | x :: r, _ =>
    have a0 := nth_lo (x :: r) 0
    have e : pw1 (nth (x :: r) 0) ++ ((x :: r).tail.map num).flatMap pw1 = x :: r := by
      have e1 : ∀ q : List UInt8, (q.map num).flatMap pw1 = q := by
        intro q
        induction q with
        | nil => rfl
        | cons b q ih => rw [List.map_cons, List.flatMap_cons, ih]; show by1 (num b) :: q = _; rw [by1_num]
      rw [List.tail_cons, e1]
      show by1 (num x) :: r = _
      rw [by1_num]
    have hc : (inB (nth (x :: r) 0) 0 7 && decide (((x :: r).tail.map num).length ≤ 20) && allB ((x :: r).tail.map num) 0 24) = decMissOk (x :: r) := by
      unfold decMissOk
      congr 1
      rw [Bool.eq_iff_iff]
      simp only [Bool.and_eq_true, decide_eq_true_eq, List.tail_cons, List.length_map, List.length_cons]
      constructor
      · intro ⟨h1, h2⟩
        have := inB_true h1
        exact ⟨inB_mk (by omega) (by omega), by omega⟩
      · intro ⟨h1, h2⟩
        have := inB_true h1
        exact ⟨inB_mk (by omega) (by omega), by omega⟩
    constructor
    · intro h
      cases hk : decMissOk (x :: r)
      · unfold encMiss at h
        rw [hc, hk] at h
        simp at h
      · rfl
    · intro h
      unfold encMiss
      rw [hc, h, if_pos rfl]
      exact e

theorem sDecodeMissing_any (l : List UInt8) (w : World) (hl : l.length ≤ 1048576) :
    Calls Try.prog 39 #[.string ⟨l.toArray⟩] w fun e w' => ∃ A c, e = .returned (.tuple #[.int .i64 (dmF l), .slice A (dmL l).length c, .bool (decMissOk l)]) ∧ w'.ownsRow w.heap.size 3 1 (.slice A (dmL l).length c) (dmL l).length ((dmL l).flatMap cI) ∧ Below w.heap.size w w' := by
  have hown0 : (w.alloc (.cells #[] 3)).ownsRow w.heap.size 3 1 (.slice (some ⟨w.heap.size, 0, none⟩) 0 0) 0 [] := World.ownsRow_lit w #[] 0 (Nat.le_refl _) (by decide) rfl
  have hzl : (l.tail.map num).length = l.length - 1 := by simp
  generalize hzs : l.tail.map num = zs at hzl
  have HZ := Lib.hid hzs
  have hzl1 : zs.length ≤ l.length ∧ l.length ≤ zs.length + 1 ∧ zs.length ≤ 1048576 := by omega
  have HL := Lib.hid hzl
  clear hzs hzl
  go_enter Try.func39, Try.ntmps39
  go_wp2_with fail
  go_loopw [5, 6] (fun v i wr => ∃ (k : Nat) (A : Option Addr) (c : Nat), k ≤ zs.length ∧ i = .int .i64 ((k : Int) + 1) ∧ v = .slice A k c ∧ wr.ownsRow w.heap.size 3 1 (.slice A k c) k ((zs.take k).flatMap cI) ∧ Below w.heap.size w wr) (fun _ i _ => zs.length + 1 - (intOf i).toNat)
  case atStart => exact ⟨0, some ⟨w.heap.size, 0, none⟩, 0, Nat.zero_le _, rfl, rfl, hown0, (Below.refl _ _).alloc (Nat.le_refl _) _⟩
  case round =>
    obtain ⟨k, A, c, hk, rfl, rfl, hown, hB⟩ := hrel
    by_cases hlt : k < zs.length
    · have hll : (k : Int) + 1 < l.length := by have := HL.out; omega
      have hg : nth l ((k : Int) + 1) = zs[k] := by
        have := HZ.out
        subst this
        exact tail_get hlt
      have hglo := nth_lo l ((k : Int) + 1)
      have hghi := nth_hi l ((k : Int) + 1)
      rw [hg] at hglo hghi
      have hnext := Lib.hid (flatMap_take cI hlt)
      have hsz : w.heap.size ≤ wr.heap.size := hB.size
      go_wp2_with (at_builtin; refine wpList_append1 _ rfl (.tmp 14) (.tmp 19) 41 rfl 3 (.int .i64 0) 1 8 Try.underlying41 infoI64 rfl (by decide) w.heap.size _ _ _ _ rfl hown [.int .i64 zs[k]] _ rfl rfl rfl (by simp [Value.oneCell']) (by omega) hsz ?_; intro g1 c1 w1 hown1 _ hb1)
      go_roundw
      case rel => exact ⟨k + 1, some ⟨g1, 0, none⟩, c1, by omega, by go_num, rfl, by rw [hnext.out]; exact hown1, hB.trans hb1⟩
      case measure => simp [intOf]; omega
    · obtain rfl : k = zs.length := by omega
      rw [List.take_length] at hown
      have hll : (l.length : Int) ≤ (zs.length : Int) + 1 := by omega
      have hwl : w.heap.size ≤ wr.heap.size := hB.size
      cases hd : decMissOk l
      · have hc := Lib.hid (dm_no hd)
        have hno' := Lib.hid hd
        have hnil : ∀ (w' : World), w.heap.size ≤ w'.heap.size → (w'.alloc (.cells #[] 3)).ownsRow w.heap.size 3 1 (.slice (some ⟨w'.heap.size, 0, none⟩) (dmL l).length 0) (dmL l).length ((dmL l).flatMap cI) := fun w' hw' => by
          rw [hc.out.2]; exact World.ownsRow_lit w' #[] 0 hw' (by decide) rfl
        have hnil' := Lib.hid hnil
        clear hnil
        by_cases hne : l = []
        · subst hne
          clear hd
          go_wp2_with fail
          go_ret3
          exact ⟨some ⟨wr.heap.size, 0, none⟩, 0, ret_isb hc.out.1.symm (by rw [hc.out.2]; rfl) hno'.out.symm, hnil'.out _ hwl, hB.alloc hwl _⟩
        · have hle : (l == []) = false := by simpa using hne
          have he : ¬ encMiss (nth l 0) zs = l := fun hh => by rw [← HZ.out] at hh; rw [(decMiss_enc hne).1 hh] at hd; cases hd
          have he' : (encMiss (nth l 0) zs == l) = false := by simpa using he
          have h0i : (0 : Int) < l.length := by have := List.length_pos_iff.2 hne; omega
          have hr := Rd.of_own hown
          clear hd he hown
          go_wp2_with (go_at_call 35; refine (sEncodeMissing_any _ _ _ _ zs _ rfl (by omega) hr).mono ?_; rintro e w' ⟨rfl, hb⟩)
          go_ret3
          exact ⟨some ⟨w'.heap.size, 0, none⟩, 0, ret_isb hc.out.1.symm (by rw [hc.out.2]; rfl) hno'.out.symm, hnil'.out _ (Nat.le_trans hwl hb.size), (hB.trans (hb.mono hwl)).alloc (Nat.le_trans hwl hb.size) _⟩
      · have hc := Lib.hid (dm_yes hd)
        have hyes' := Lib.hid hd
        have hne : l ≠ [] := by rintro rfl; cases hd
        have hle : (l == []) = false := by simpa using hne
        have he : encMiss (nth l 0) zs = l := by rw [← HZ.out]; exact (decMiss_enc hne).2 hd
        have he' : (encMiss (nth l 0) zs == l) = true := by simpa using he
        have h0i : (0 : Int) < l.length := by have := List.length_pos_iff.2 hne; omega
        have hr := Rd.of_own hown
        have hown' : wr.ownsRow w.heap.size 3 1 (.slice A (dmL l).length c) (dmL l).length ((dmL l).flatMap cI) := by
          rw [hc.out.2, HZ.out]
          exact hown
        have hown'' := Lib.hid hown'
        clear hd he hown hown' hne
        go_wp2_with (go_at_call 35; refine (sEncodeMissing_any _ _ _ _ zs _ rfl (by omega) hr).mono ?_; rintro e w' ⟨rfl, hb⟩)
        go_ret3
        exact ⟨A, c, ret_isb hc.out.1.symm (by rw [hc.out.2, HZ.out]; rfl) hyes'.out.symm, own_below hown''.out hb, hB.trans (hb.mono hwl)⟩
end Go.Proofs.Ytimlddibaffjoaa
