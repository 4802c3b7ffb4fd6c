/- Contracts: a new sender of a file, in the program and in the reference. No condition. -/
import Derived.Test.YtimlddibaffjoaaFileOut
import Derived.Test.YtimlddibaffjoaaDraw
import Derived.Test.YtimlddibaffjoaaPick
namespace Go.Proofs.Ytimlddibaffjoaa
open Go.RowKit

def segsTo (k : Nat) : List Int := (List.range k).map fun (i : Nat) => (i : Int)
theorem segsTo_next (k : Nat) : segsTo (k + 1) = segsTo k ++ [(k : Int)] := by unfold segsTo; rw [List.range_succ, List.map_append]; rfl
theorem segsTo_len (k : Nat) : (segsTo k).length = k := by simp [segsTo]
def nfQ (d : List UInt8) : List Int := segsTo (cseg d.length).toNat ++ [-1]
def nfOk (f : Int) (d : List UInt8) : Bool := foOk f d (nfQ d)
def nfD (f : Int) (d : List UInt8) : List UInt8 := if nfOk f d then d else []
def nfF (f : Int) (d : List UInt8) : Int := if nfOk f d then f else 0
def nfL (f : Int) (d : List UInt8) : List Int := if nfOk f d then nfQ d else []
theorem nfL_le (f : Int) (d : List UInt8) : (nfL f d).length ≤ 1048576 := by
  unfold nfL
  split
  · unfold nfQ
    have := cseg_hi (d.length : Int)
    rw [List.length_append, segsTo_len]
    simp
    omega
  · simp
theorem own_app {w : World} {base : Nat} {e : TypeId} {n c : Nat} {A : Option Addr} {xs : List Int} {y : Int} (h : w.ownsRow base e 1 (.slice A n c) n (xs.flatMap cI ++ [.int .i64 y])) : w.ownsRow base e 1 (.slice A n c) n ((xs ++ [y]).flatMap cI) := by
  rw [List.flatMap_append]
  exact h

set_option maxHeartbeats 8000000 in
theorem newFileOut_any (f : Int) (d : List UInt8) (w : World) (hd : Txt d) :
    Calls Try.prog 53 #[.int .i64 f, .string ⟨d.toArray⟩] w fun e w' => ∃ A c, e = .returned (.tuple #[.agg #[.int .i64 (nfF f d), .string ⟨(nfD f d).toArray⟩, .slice A (nfL f d).length c, .bool false], .bool (nfOk f d)]) ∧ w'.ownsRow w.heap.size 3 1 (.slice A (nfL f d).length c) (nfL f d).length ((nfL f d).flatMap cI) ∧ Below w.heap.size w w' := by
  have hd' : d.length ≤ 9223372036854775807 := hd
  have hS0 := cseg_lo (d.length : Int)
  have hS1 := cseg_hi (d.length : Int)
  have hQ := Lib.hid (show nfQ d = segsTo (cseg d.length).toNat ++ [-1] from rfl)
  obtain ⟨S, hSe⟩ : ∃ S, S = cseg (d.length : Int) := ⟨_, rfl⟩
  rw [← hSe] at hS0 hS1 hQ
  have hCS : ∀ W, Calls Try.prog 19 #[.int .i64 d.length] W fun e w' => e = .returned (.int .i64 S) ∧ W = w' := fun W => by rw [hSe]; exact countSegments_any _ W
  have hCSs : ∀ W, Calls Try.prog 18 #[.int .i64 d.length] W fun e w' => e = .returned (.int .i64 S) ∧ W = w' := fun W => by rw [hSe]; exact sCountSegments_any _ W
  have hOK := fun W (A : Option Addr) (n c : Nat) (hn : (nfQ d).length = n) (hb : n ≤ 1048577) (hr : Rd W 1 A n ((nfQ d).flatMap cI)) => fileOutOk_any f d A n c (nfQ d) false W hd hn hb hr
  have hOk := Lib.hid (show nfOk f d = foOk f d (nfQ d) from rfl)
  rw [← hOk.out] at hOK
  clear hSe
  go_enter Try.func53, Try.ntmps53
  go_wp2_with fail
  refine (hCS _).mono ?_
  rintro e w' ⟨rfl, rfl⟩
  go_wp2
  obtain ⟨w0, hw0⟩ : ∃ W, W = (w.alloc (.cells #[.int .i64 0, .string ⟨#[]⟩, .slice none 0 0, .bool false] 58)).alloc (.cells #[.int .i64 f, .string ⟨d.toArray⟩, .slice none 0 0, .bool false] 58) := ⟨_, rfl⟩
  have hB0 : Below w.heap.size w w0 := by rw [hw0]; exact ((Below.refl _ _).alloc (Nat.le_refl _) _).alloc (by simp) _
  have hr0 : w0.heap[w.heap.size]? = some (.cells #[.int .i64 0, .string ⟨#[]⟩, .slice none 0 0, .bool false] 58 (0, 0)) := by rw [hw0]; exact heap_alloc _ (heap_new _ _)
  have hq0 : w0.heap[w.heap.size + 1]? = some (.cells #[.int .i64 f, .string ⟨d.toArray⟩, .slice none 0 0, .bool false] 58 (0, 0)) := by
    rw [hw0]
    have := heap_new (w.alloc (.cells #[.int .i64 0, .string ⟨#[]⟩, .slice none 0 0, .bool false] 58)) (.cells #[.int .i64 f, .string ⟨d.toArray⟩, .slice none 0 0, .bool false] 58)
    simpa using this
  have hz0 : w0.heap.size = w.heap.size + 2 := by rw [hw0]; simp
  rw [← hw0]
  clear hw0
  go_loopw [14] (fun i wr => ∃ (k : Nat) (B : Option Addr) (b : Nat), (k : Int) ≤ S ∧ i = .int .i64 k ∧ Hid (wr.heap[w.heap.size]? = some (.cells #[.int .i64 0, .string ⟨#[]⟩, .slice none 0 0, .bool false] 58 (0, 0))) ∧ Hid (wr.heap[w.heap.size + 1]? = some (.cells #[.int .i64 f, .string ⟨d.toArray⟩, .slice B k b, .bool false] 58 (0, 0))) ∧ wr.ownsRow (w.heap.size + 2) 3 1 (.slice B k b) k ((segsTo k).flatMap cI) ∧ w.heap.size + 2 ≤ wr.heap.size ∧ Below w.heap.size w wr) (fun i _ => (S - intOf i).toNat)
  case atStart => exact ⟨0, none, 0, by omega, rfl, hr0, hq0, World.ownsRow_nil _ _ _ _, by omega, hB0⟩
  case round =>
    obtain ⟨k, B, b, hk, rfl, HR, HQ, hown, hsz, hB⟩ := hrel
    have q0 : wr.cell? ⟨w.heap.size + 1, 0, none⟩ = some (.int .i64 f) := cell_of_row _ _ 0 _ _ _ HQ.out
    have q1 : wr.cell? ⟨w.heap.size + 1, 1, none⟩ = some (.string ⟨d.toArray⟩) := cell_of_row _ _ 1 _ _ _ HQ.out
    have q2 : wr.cell? ⟨w.heap.size + 1, 2, none⟩ = some (.slice B k b) := cell_of_row _ _ 2 _ _ _ HQ.out
    have q3 : wr.cell? ⟨w.heap.size + 1, 3, none⟩ = some (.bool false) := cell_of_row _ _ 3 _ _ _ HQ.out
    have qf := frozen_row HQ.out
    have hlq : w.heap.size + 1 < wr.heap.size := by omega
    clear hr0 hq0 hB0
    by_cases hlt : (k : Int) < S
    · have hk0 : (0 : Int) ≤ k := by omega
      go_wp2_with (first
        | fail
        | (at_builtin
           refine wpList_append1 _ rfl (.tmp 18) (.tmp 20) 41 rfl 3 (.int .i64 0) 1 8 Try.underlying41 infoI64 rfl (by decide) (w.heap.size + 2) _ _ _ _ rfl hown [.int .i64 k] _ rfl rfl rfl (by simp [Value.oneCell']) (by omega) (by omega) ?_
           intro g2 c2 w2 hown2 _ hb2
           have hq2 := (hb2.block (w.heap.size + 1) (by omega)).trans HQ.out
           have hr2 := (hb2.block w.heap.size (by omega)).trans HR.out
           have hz2 := hb2.size
           have e2 : w2.cell? ⟨w.heap.size + 1, 2, none⟩ = some (.slice B k b) := cell_of_row _ _ 2 _ _ _ hq2
           have ef := frozen_row hq2
           have hs2 : w.heap.size + 1 < w2.heap.size := by omega
           have HQ2 := Lib.hid hq2
           have HR2 := Lib.hid hr2
           clear hq2 hr2 q0 q1 q2 q3 qf))
      go_roundw
      case rel =>
        refine ⟨k + 1, some ⟨g2, 0, none⟩, c2, by omega, by go_num, Lib.hid ?_, Lib.hid (heap_setCell_at HQ2.out 2 _), ?_, by simp; omega, (hB.trans (hb2.mono (by omega))).setCell (by simp) _⟩
        · exact (Below.heap_setCell w2 ⟨w.heap.size + 1, 2, none⟩ _ w.heap.size (by simp)).trans HR2.out
        · rw [segsTo_next]
          exact own_setCell (own_app hown2) _ _ (fun e => by have h9 := own_row hown2 _ e; simp at h9 <;> omega)
      case measure => simp [intOf]; omega
    · have hkS : S.toNat = k := by omega
      rw [hkS] at hQ
      clear hkS
      have hk0 : (0 : Int) ≤ k := by omega
      go_wp2_with (first
        | fail
        | (at_builtin
           refine wpList_append1 _ rfl (.tmp 25) (.tmp 26) 41 rfl 3 (.int .i64 0) 1 8 Try.underlying41 infoI64 rfl (by decide) (w.heap.size + 2) _ _ _ _ rfl hown [.int .i64 (-1)] _ rfl rfl rfl (by simp [Value.oneCell']) (by omega) (by omega) ?_
           intro g2 c2 w2 hown2 _ hb2
           have hq2 := (hb2.block (w.heap.size + 1) (by omega)).trans HQ.out
           have hr2 := (hb2.block w.heap.size (by omega)).trans HR.out
           have hz2 := hb2.size
           have e0 : w2.cell? ⟨w.heap.size + 1, 0, none⟩ = some (.int .i64 f) := cell_of_row _ _ 0 _ _ _ hq2
           have e1 : w2.cell? ⟨w.heap.size + 1, 1, none⟩ = some (.string ⟨d.toArray⟩) := cell_of_row _ _ 1 _ _ _ hq2
           have e2 : w2.cell? ⟨w.heap.size + 1, 2, none⟩ = some (.slice B k b) := cell_of_row _ _ 2 _ _ _ hq2
           have e3 : w2.cell? ⟨w.heap.size + 1, 3, none⟩ = some (.bool false) := cell_of_row _ _ 3 _ _ _ hq2
           have ef := frozen_row hq2
           have hs2 : w.heap.size + 1 < w2.heap.size := by omega
           have HQ2 := Lib.hid hq2
           have HR2 := Lib.hid hr2
           clear hq2 hr2 q0 q1 q2 q3 qf))
      have hlenQ : (nfQ d).length = k + 1 := by rw [hQ.out, List.length_append, segsTo_len]; rfl
      have hownQ : (w2.setCell ⟨w.heap.size + 1, 2, none⟩ (.slice (some ⟨g2, 0, none⟩) (k + 1) c2)).ownsRow (w.heap.size + 2) 3 1 (.slice (some ⟨g2, 0, none⟩) (k + 1) c2) (k + 1) ((nfQ d).flatMap cI) := by
        rw [hQ.out]
        exact own_setCell (own_app hown2) _ _ (fun e => by have h9 := own_row hown2 _ e; simp at h9 <;> omega)
      refine (hOK _ _ _ _ hlenQ (by omega) (Rd.of_own hownQ)).mono ?_
      rintro e w3 ⟨rfl, hb3⟩
      have hown3 := own_below hownQ hb3
      have hsc : (w2.setCell ⟨w.heap.size + 1, 2, none⟩ (.slice (some ⟨g2, 0, none⟩) (k + 1) c2)).heap.size = w2.heap.size := by simp
      have hr3 : w3.heap[w.heap.size]? = some (.cells #[.int .i64 0, .string ⟨#[]⟩, .slice none 0 0, .bool false] 58 (0, 0)) := (hb3.block _ (by omega)).trans ((Below.heap_setCell w2 ⟨w.heap.size + 1, 2, none⟩ _ w.heap.size (by simp)).trans HR2.out)
      have hq3 : w3.heap[w.heap.size + 1]? = some (.cells #[.int .i64 f, .string ⟨d.toArray⟩, .slice (some ⟨g2, 0, none⟩) (k + 1) c2, .bool false] 58 (0, 0)) := (hb3.block _ (by omega)).trans (heap_setCell_at HQ2.out 2 _)
      have hB3 : Below w.heap.size w w3 := ((hB.trans (hb2.mono (by omega))).setCell (p := ⟨w.heap.size + 1, 2, none⟩) (by simp) _).trans (hb3.mono (by omega))
      have hz3 := hb3.size
      have s0 : w3.cell? ⟨w.heap.size + 1, 0, none⟩ = some (.int .i64 f) := cell_of_row _ _ 0 _ _ _ hq3
      have s1 : w3.cell? ⟨w.heap.size + 1, 1, none⟩ = some (.string ⟨d.toArray⟩) := cell_of_row _ _ 1 _ _ _ hq3
      have s2 : w3.cell? ⟨w.heap.size + 1, 2, none⟩ = some (.slice (some ⟨g2, 0, none⟩) (k + 1) c2) := cell_of_row _ _ 2 _ _ _ hq3
      have s3 : w3.cell? ⟨w.heap.size + 1, 3, none⟩ = some (.bool false) := cell_of_row _ _ 3 _ _ _ hq3
      have t0 : w3.cell? ⟨w.heap.size, 0, none⟩ = some (.int .i64 0) := cell_of_row _ _ 0 _ _ _ hr3
      have t1 : w3.cell? ⟨w.heap.size, 1, none⟩ = some (.string ⟨#[]⟩) := cell_of_row _ _ 1 _ _ _ hr3
      have t2 : w3.cell? ⟨w.heap.size, 2, none⟩ = some (.slice none 0 0) := cell_of_row _ _ 2 _ _ _ hr3
      have t3 : w3.cell? ⟨w.heap.size, 3, none⟩ = some (.bool false) := cell_of_row _ _ 3 _ _ _ hr3
      have tf := frozen_row hr3
      have hl3 : w.heap.size < w3.heap.size := by omega
      clear hr3 hq3 e0 e1 e2 e3 ef HQ HR HQ2 HR2 hb3 hownQ
      cases hok : nfOk f d
      · have hV := Lib.hid (show nfF f d = 0 ∧ nfD f d = [] ∧ nfL f d = [] by unfold nfF nfD nfL; rw [hok]; exact ⟨rfl, rfl, rfl⟩)
        have HK9 := Lib.hid hok
        clear hok
        go_wp2
        refine bodyPost_ret (v := .tuple #[.agg #[.int .i64 0, .string ⟨#[]⟩, .slice none 0 0, .bool false], .bool false]) (by simp [results, Try.results53, go_sem, ↓cell_some, t0, t1, t2, t3]) rfl ?_
        rw [hV.out.1, hV.out.2.1, hV.out.2.2, HK9.out]
        refine ⟨none, 0, rfl, World.ownsRow_nil _ _ _ _, ?_⟩
        repeat refine Below.setCell ?_ (by simp) _
        exact hB3
      · have hV := Lib.hid (show nfF f d = f ∧ nfD f d = d ∧ nfL f d = nfQ d by unfold nfF nfD nfL; rw [hok]; exact ⟨rfl, rfl, rfl⟩)
        have HK9 := Lib.hid hok
        clear hok
        go_wp2
        refine bodyPost_ret (v := .tuple #[.agg #[.int .i64 f, .string ⟨d.toArray⟩, .slice (some ⟨g2, 0, none⟩) (k + 1) c2, .bool false], .bool true]) (by simp [results, Try.results53, go_sem, ↓cell_some, t0, t1, t2, t3]) rfl ?_
        rw [hV.out.1, hV.out.2.1, hV.out.2.2, HK9.out, hlenQ]
        refine ⟨some ⟨g2, 0, none⟩, c2, rfl, ?_, ?_⟩
        · refine own_base (base' := w.heap.size + 2) ?_ (by omega)
          repeat refine ownsRow_setCell_below ?_ (by simp <;> omega) _
          exact hown3
        · repeat refine Below.setCell ?_ (by simp) _
          exact hB3
set_option maxHeartbeats 8000000 in
theorem sNewFileOut_any (f : Int) (d : List UInt8) (w : World) (hd : Txt d) :
    Calls Try.prog 52 #[.int .i64 f, .string ⟨d.toArray⟩] w fun e w' => ∃ A c, e = .returned (.tuple #[.agg #[.int .i64 (nfF f d), .string ⟨(nfD f d).toArray⟩, .slice A (nfL f d).length c, .bool false], .bool (nfOk f d)]) ∧ w'.ownsRow w.heap.size 3 1 (.slice A (nfL f d).length c) (nfL f d).length ((nfL f d).flatMap cI) ∧ Below w.heap.size w w' := by
  have hd' : d.length ≤ 9223372036854775807 := hd
  have hS0 := cseg_lo (d.length : Int)
  have hS1 := cseg_hi (d.length : Int)
  have hQ := Lib.hid (show nfQ d = segsTo (cseg d.length).toNat ++ [-1] from rfl)
  obtain ⟨S, hSe⟩ : ∃ S, S = cseg (d.length : Int) := ⟨_, rfl⟩
  rw [← hSe] at hS0 hS1 hQ
  have hCS : ∀ W, Calls Try.prog 19 #[.int .i64 d.length] W fun e w' => e = .returned (.int .i64 S) ∧ W = w' := fun W => by rw [hSe]; exact countSegments_any _ W
  have hCSs : ∀ W, Calls Try.prog 18 #[.int .i64 d.length] W fun e w' => e = .returned (.int .i64 S) ∧ W = w' := fun W => by rw [hSe]; exact sCountSegments_any _ W
  have hOK := fun W (A : Option Addr) (n c : Nat) (hn : (nfQ d).length = n) (hb : n ≤ 1048577) (hr : Rd W 1 A n ((nfQ d).flatMap cI)) => sFileOutOk_any f d A n c (nfQ d) false W hd hn hb hr
  have hOk := Lib.hid (show nfOk f d = foOk f d (nfQ d) from rfl)
  rw [← hOk.out] at hOK
  clear hSe
  go_enter Try.func52, Try.ntmps52
  skip
  go_wp2
  obtain ⟨w0, hw0⟩ : ∃ W, W = (w.alloc (.cells #[.int .i64 0, .string ⟨#[]⟩, .slice none 0 0, .bool false] 58)).alloc (.cells #[.int .i64 f, .string ⟨d.toArray⟩, .slice none 0 0, .bool false] 58) := ⟨_, rfl⟩
  have hB0 : Below w.heap.size w w0 := by rw [hw0]; exact ((Below.refl _ _).alloc (Nat.le_refl _) _).alloc (by simp) _
  have hr0 : w0.heap[w.heap.size]? = some (.cells #[.int .i64 0, .string ⟨#[]⟩, .slice none 0 0, .bool false] 58 (0, 0)) := by rw [hw0]; exact heap_alloc _ (heap_new _ _)
  have hq0 : w0.heap[w.heap.size + 1]? = some (.cells #[.int .i64 f, .string ⟨d.toArray⟩, .slice none 0 0, .bool false] 58 (0, 0)) := by
    rw [hw0]
    have := heap_new (w.alloc (.cells #[.int .i64 0, .string ⟨#[]⟩, .slice none 0 0, .bool false] 58)) (.cells #[.int .i64 f, .string ⟨d.toArray⟩, .slice none 0 0, .bool false] 58)
    simpa using this
  have hz0 : w0.heap.size = w.heap.size + 2 := by rw [hw0]; simp
  rw [← hw0]
  clear hw0
  go_loopw [7] (fun i wr => ∃ (k : Nat) (B : Option Addr) (b : Nat), (k : Int) ≤ S ∧ i = .int .i64 k ∧ Hid (wr.heap[w.heap.size]? = some (.cells #[.int .i64 0, .string ⟨#[]⟩, .slice none 0 0, .bool false] 58 (0, 0))) ∧ Hid (wr.heap[w.heap.size + 1]? = some (.cells #[.int .i64 f, .string ⟨d.toArray⟩, .slice B k b, .bool false] 58 (0, 0))) ∧ wr.ownsRow (w.heap.size + 2) 3 1 (.slice B k b) k ((segsTo k).flatMap cI) ∧ w.heap.size + 2 ≤ wr.heap.size ∧ Below w.heap.size w wr) (fun i _ => (S - intOf i).toNat)
  case atStart => exact ⟨0, none, 0, by omega, rfl, hr0, hq0, World.ownsRow_nil _ _ _ _, by omega, hB0⟩
  case round =>
    obtain ⟨k, B, b, hk, rfl, HR, HQ, hown, hsz, hB⟩ := hrel
    have q0 : wr.cell? ⟨w.heap.size + 1, 0, none⟩ = some (.int .i64 f) := cell_of_row _ _ 0 _ _ _ HQ.out
    have q1 : wr.cell? ⟨w.heap.size + 1, 1, none⟩ = some (.string ⟨d.toArray⟩) := cell_of_row _ _ 1 _ _ _ HQ.out
    have q2 : wr.cell? ⟨w.heap.size + 1, 2, none⟩ = some (.slice B k b) := cell_of_row _ _ 2 _ _ _ HQ.out
    have q3 : wr.cell? ⟨w.heap.size + 1, 3, none⟩ = some (.bool false) := cell_of_row _ _ 3 _ _ _ HQ.out
    have qf := frozen_row HQ.out
    have hlq : w.heap.size + 1 < wr.heap.size := by omega
    clear hr0 hq0 hB0
    by_cases hlt : (k : Int) < S
    · have hk0 : (0 : Int) ≤ k := by omega
      go_wp2_with (first
        | (go_at_call 18; refine (hCSs _).mono ?_; rintro e w' ⟨rfl, rfl⟩)
        | (at_builtin
           refine wpList_append1 _ rfl (.tmp 19) (.tmp 21) 41 rfl 3 (.int .i64 0) 1 8 Try.underlying41 infoI64 rfl (by decide) (w.heap.size + 2) _ _ _ _ rfl hown [.int .i64 k] _ rfl rfl rfl (by simp [Value.oneCell']) (by omega) (by omega) ?_
           intro g2 c2 w2 hown2 _ hb2
           have hq2 := (hb2.block (w.heap.size + 1) (by omega)).trans HQ.out
           have hr2 := (hb2.block w.heap.size (by omega)).trans HR.out
           have hz2 := hb2.size
           have e2 : w2.cell? ⟨w.heap.size + 1, 2, none⟩ = some (.slice B k b) := cell_of_row _ _ 2 _ _ _ hq2
           have ef := frozen_row hq2
           have hs2 : w.heap.size + 1 < w2.heap.size := by omega
           have HQ2 := Lib.hid hq2
           have HR2 := Lib.hid hr2
           clear hq2 hr2 q0 q1 q2 q3 qf))
      go_roundw
      case rel =>
        refine ⟨k + 1, some ⟨g2, 0, none⟩, c2, by omega, by go_num, Lib.hid ?_, Lib.hid (heap_setCell_at HQ2.out 2 _), ?_, by simp; omega, (hB.trans (hb2.mono (by omega))).setCell (by simp) _⟩
        · exact (Below.heap_setCell w2 ⟨w.heap.size + 1, 2, none⟩ _ w.heap.size (by simp)).trans HR2.out
        · rw [segsTo_next]
          exact own_setCell (own_app hown2) _ _ (fun e => by have h9 := own_row hown2 _ e; simp at h9 <;> omega)
      case measure => simp [intOf]; omega
    · have hkS : S.toNat = k := by omega
      rw [hkS] at hQ
      clear hkS
      have hk0 : (0 : Int) ≤ k := by omega
      go_wp2_with (first
        | (go_at_call 18; refine (hCSs _).mono ?_; rintro e w' ⟨rfl, rfl⟩)
        | (at_builtin
           refine wpList_append1 _ rfl (.tmp 25) (.tmp 26) 41 rfl 3 (.int .i64 0) 1 8 Try.underlying41 infoI64 rfl (by decide) (w.heap.size + 2) _ _ _ _ rfl hown [.int .i64 (-1)] _ rfl rfl rfl (by simp [Value.oneCell']) (by omega) (by omega) ?_
           intro g2 c2 w2 hown2 _ hb2
           have hq2 := (hb2.block (w.heap.size + 1) (by omega)).trans HQ.out
           have hr2 := (hb2.block w.heap.size (by omega)).trans HR.out
           have hz2 := hb2.size
           have e0 : w2.cell? ⟨w.heap.size + 1, 0, none⟩ = some (.int .i64 f) := cell_of_row _ _ 0 _ _ _ hq2
           have e1 : w2.cell? ⟨w.heap.size + 1, 1, none⟩ = some (.string ⟨d.toArray⟩) := cell_of_row _ _ 1 _ _ _ hq2
           have e2 : w2.cell? ⟨w.heap.size + 1, 2, none⟩ = some (.slice B k b) := cell_of_row _ _ 2 _ _ _ hq2
           have e3 : w2.cell? ⟨w.heap.size + 1, 3, none⟩ = some (.bool false) := cell_of_row _ _ 3 _ _ _ hq2
           have ef := frozen_row hq2
           have hs2 : w.heap.size + 1 < w2.heap.size := by omega
           have HQ2 := Lib.hid hq2
           have HR2 := Lib.hid hr2
           clear hq2 hr2 q0 q1 q2 q3 qf))
      have hlenQ : (nfQ d).length = k + 1 := by rw [hQ.out, List.length_append, segsTo_len]; rfl
      have hownQ : (w2.setCell ⟨w.heap.size + 1, 2, none⟩ (.slice (some ⟨g2, 0, none⟩) (k + 1) c2)).ownsRow (w.heap.size + 2) 3 1 (.slice (some ⟨g2, 0, none⟩) (k + 1) c2) (k + 1) ((nfQ d).flatMap cI) := by
        rw [hQ.out]
        exact own_setCell (own_app hown2) _ _ (fun e => by have h9 := own_row hown2 _ e; simp at h9 <;> omega)
      refine (hOK _ _ _ _ hlenQ (by omega) (Rd.of_own hownQ)).mono ?_
      rintro e w3 ⟨rfl, hb3⟩
      have hown3 := own_below hownQ hb3
      have hsc : (w2.setCell ⟨w.heap.size + 1, 2, none⟩ (.slice (some ⟨g2, 0, none⟩) (k + 1) c2)).heap.size = w2.heap.size := by simp
      have hr3 : w3.heap[w.heap.size]? = some (.cells #[.int .i64 0, .string ⟨#[]⟩, .slice none 0 0, .bool false] 58 (0, 0)) := (hb3.block _ (by omega)).trans ((Below.heap_setCell w2 ⟨w.heap.size + 1, 2, none⟩ _ w.heap.size (by simp)).trans HR2.out)
      have hq3 : w3.heap[w.heap.size + 1]? = some (.cells #[.int .i64 f, .string ⟨d.toArray⟩, .slice (some ⟨g2, 0, none⟩) (k + 1) c2, .bool false] 58 (0, 0)) := (hb3.block _ (by omega)).trans (heap_setCell_at HQ2.out 2 _)
      have hB3 : Below w.heap.size w w3 := ((hB.trans (hb2.mono (by omega))).setCell (p := ⟨w.heap.size + 1, 2, none⟩) (by simp) _).trans (hb3.mono (by omega))
      have hz3 := hb3.size
      have s0 : w3.cell? ⟨w.heap.size + 1, 0, none⟩ = some (.int .i64 f) := cell_of_row _ _ 0 _ _ _ hq3
      have s1 : w3.cell? ⟨w.heap.size + 1, 1, none⟩ = some (.string ⟨d.toArray⟩) := cell_of_row _ _ 1 _ _ _ hq3
      have s2 : w3.cell? ⟨w.heap.size + 1, 2, none⟩ = some (.slice (some ⟨g2, 0, none⟩) (k + 1) c2) := cell_of_row _ _ 2 _ _ _ hq3
      have s3 : w3.cell? ⟨w.heap.size + 1, 3, none⟩ = some (.bool false) := cell_of_row _ _ 3 _ _ _ hq3
      have t0 : w3.cell? ⟨w.heap.size, 0, none⟩ = some (.int .i64 0) := cell_of_row _ _ 0 _ _ _ hr3
      have t1 : w3.cell? ⟨w.heap.size, 1, none⟩ = some (.string ⟨#[]⟩) := cell_of_row _ _ 1 _ _ _ hr3
      have t2 : w3.cell? ⟨w.heap.size, 2, none⟩ = some (.slice none 0 0) := cell_of_row _ _ 2 _ _ _ hr3
      have t3 : w3.cell? ⟨w.heap.size, 3, none⟩ = some (.bool false) := cell_of_row _ _ 3 _ _ _ hr3
      have tf := frozen_row hr3
      have hl3 : w.heap.size < w3.heap.size := by omega
      clear hr3 hq3 e0 e1 e2 e3 ef HQ HR HQ2 HR2 hb3 hownQ
      cases hok : nfOk f d
      · have hV := Lib.hid (show nfF f d = 0 ∧ nfD f d = [] ∧ nfL f d = [] by unfold nfF nfD nfL; rw [hok]; exact ⟨rfl, rfl, rfl⟩)
        have HK9 := Lib.hid hok
        clear hok
        go_wp2
        refine bodyPost_ret (v := .tuple #[.agg #[.int .i64 0, .string ⟨#[]⟩, .slice none 0 0, .bool false], .bool false]) (by simp [results, Try.results52, go_sem, ↓cell_some, t0, t1, t2, t3]) rfl ?_
        rw [hV.out.1, hV.out.2.1, hV.out.2.2, HK9.out]
        refine ⟨none, 0, rfl, World.ownsRow_nil _ _ _ _, ?_⟩
        repeat refine Below.setCell ?_ (by simp) _
        exact hB3
      · have hV := Lib.hid (show nfF f d = f ∧ nfD f d = d ∧ nfL f d = nfQ d by unfold nfF nfD nfL; rw [hok]; exact ⟨rfl, rfl, rfl⟩)
        have HK9 := Lib.hid hok
        clear hok
        go_wp2
        refine bodyPost_ret (v := .tuple #[.agg #[.int .i64 f, .string ⟨d.toArray⟩, .slice (some ⟨g2, 0, none⟩) (k + 1) c2, .bool false], .bool true]) (by simp [results, Try.results52, go_sem, ↓cell_some, t0, t1, t2, t3]) rfl ?_
        rw [hV.out.1, hV.out.2.1, hV.out.2.2, HK9.out, hlenQ]
        refine ⟨some ⟨g2, 0, none⟩, c2, rfl, ?_, ?_⟩
        · refine own_base (base' := w.heap.size + 2) ?_ (by omega)
          repeat refine ownsRow_setCell_below ?_ (by simp <;> omega) _
          exact hown3
        · repeat refine Below.setCell ?_ (by simp) _
          exact hB3
end Go.Proofs.Ytimlddibaffjoaa
