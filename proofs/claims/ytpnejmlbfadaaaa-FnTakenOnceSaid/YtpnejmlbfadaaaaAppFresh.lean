/- append of a whole row behind a fresh empty row: what memory held stays as it was. No condition. -/
import Derived.Test.YtpnejmlbfadaaaaAppend
import Derived.Test.YtpnejmlbfadaaaaRelBox
namespace Go.Proofs.Ytpnejmlbfadaaaa
open Go.RowKit

theorem setRow_self {w : World} {q : Nat} {cs : Array Value} {e : TypeId} (h : w.heap[q]? = some (.cells cs e (0, 0))) : w.setRow q cs = w := by
  have hq : q < w.heap.size := by
    rcases Nat.lt_or_ge q w.heap.size with h1 | h1
    · exact h1
    · simp [h1] at h
  have : (w.setRow q cs).heap = w.heap := by
    refine Array.ext_getElem? fun i => ?_
    by_cases hi : i = q
    · subst hi
      rw [setRow_heap w i cs _ e _ h, h]
    · exact setRow_other w q i cs hi
  show ({ w with heap := (w.setRow q cs).heap } : World) = w
  rw [this]
/-- A new empty row. -/
def NewRow (B : Nat) (T : TypeId) (v : Value) (w : World) : Prop := ∃ q, v = .slice (some ⟨q, 0, none⟩) 0 0 ∧ B ≤ q ∧ w.heap[q]? = some (.cells #[] T (0, 0))
theorem lt_of_block {w : World} {q : Nat} {o : Obj} (h : w.heap[q]? = some o) : q < w.heap.size := by
  rcases Nat.lt_or_ge q w.heap.size with h1 | h1
  · exact h1
  · simp [h1] at h
theorem NewRow.stab {B : Nat} {T : TypeId} {v : Value} {w w' : World} (hb : Below w.heap.size w w') (h : NewRow B T v w) : NewRow B T v w' := by
  obtain ⟨q, h1, h2, h3⟩ := h
  exact ⟨q, h1, h2, (hb.block q (lt_of_block h3)).trans h3⟩
theorem NewRow.new {B : Nat} {w : World} {T : TypeId} (hB : B ≤ w.heap.size) : NewRow B T (.slice (some ⟨w.heap.size, 0, none⟩) 0 0) (w.alloc (.cells #[] T)) :=
  ⟨_, rfl, hB, by show (w.heap.push _)[w.heap.size]? = _; simp⟩
theorem NewRow.own {B : Nat} {T : TypeId} {v : Value} {w : World} (size : Nat) (h : NewRow B T v w) : w.ownsRow B T size v 0 [] := by
  obtain ⟨q, rfl, h2, h3⟩ := h
  exact ⟨by simp, .inr ⟨q, 0, #[], rfl, h2, h3, Nat.le_refl _, Nat.zero_le _, by simp, by simp⟩⟩
theorem run_append_fresh {P : Program} {w : World} (base : Nat) (t ty e : TypeId) (z : Value) (size bytes : Nat) (ht : P.underlying t = some (.slice e)) (hi : (P.info? e).map (fun i => (i.zero, i.size, i.bytes)) = some (some z, size, bytes)) (hzs : z.cells.size = size) (hsz : 0 < size)
    {v : Value} (hv : NewRow base e v w) (A : Option Addr) (n c : Nat) (xs : List Value) (hnn : A = none → n = 0 ∧ c = 0) (hr : Rd w size A n xs)
    (h1 : ∀ u ∈ xs, u.oneCell' = true) (hb : n * bytes ≤ 140737488355328) (hbase : base ≤ w.heap.size) (hby : 0 < bytes) :
    ∃ A' c' w', (Builtin.append_ #[t, t] ty #[v, .slice A n c]).run P w = .ok (.slice A' n c') w' ∧ w'.ownsRow base e size (.slice A' n c') n xs ∧ Below w.heap.size w w' := by
  obtain ⟨i, hi1, hz, hsize, hby'⟩ := info_parts hi
  have hown := hv.own size
  obtain ⟨q, rfl, hq, hqh⟩ := hv
  have h63 : n ≤ maxLen := by
    have : n * 1 ≤ n * bytes := Nat.mul_le_mul_left _ hby
    unfold maxLen
    omega
  have hempty : n = 0 → xs = [] := fun h0 => List.eq_nil_of_length_eq_zero (by rw [hr.1, h0, Nat.zero_mul])
  cases A with
  | none =>
    obtain ⟨rfl, rfl⟩ := hnn rfl
    obtain rfl := hempty rfl
    exact ⟨_, _, w, run_append_owned_none (P := P) (w := w) base t ty e i size ht hi1 _ _ _ hown, hown, Below.refl _ _⟩
  | some ad =>
    have hnews : ∀ j u, xs[j]? = some u → w.cell? (ad.add j) = some u := by
      intro j u hj
      by_cases hn : 0 < n
      · obtain ⟨b, o', e', _, hc⟩ := hr.2 hn
        cases e'
        rw [Addr.add_lit]
        exact hc j u hj
      · rw [hempty (by omega)] at hj
        simp at hj
    obtain ⟨v', w', hrun, hown', _, _⟩ := run_append_own (P := P) (w := w) base t ty e i z size bytes ht hi1 hz hsize hby' hzs hsz _ 0 [] hown ad n c xs hr.1 hnews h1 (by omega) (by rw [Nat.zero_add]; exact hb) hbase
    simp only [Nat.zero_add, List.nil_append] at hown'
    have hBl : Below w.heap.size w w' := by
      by_cases hn : n = 0
      · have hx := hempty hn
        subst hn
        subst hx
        have hrun2 := run_append_room (P := P) (w := w) t ty e i ht hi1 q 0 0 #[] hqh ad 0 c [] (by simp) hnews h1 (by omega) (by simp)
        rw [hrun] at hrun2
        injection hrun2 with _ hw
        subst hw
        simp only [List.take_nil, List.drop_nil, List.append_nil]
        rw [setRow_self hqh]
        exact Below.refl _ _
      · have hrun2 := run_append_grow (P := P) (w := w) t ty e i z ht hi1 hz ⟨q, 0, none⟩ 0 0 [] (by simp) (by simp) ad n c xs (by rw [hsize]; exact hr.1) hnews (by omega) (by unfold maxLen at h63; omega) (growslice_fits (by omega) (by rw [hby', Nat.zero_add]; exact hb))
        rw [hrun] at hrun2
        injection hrun2 with _ hw
        subst hw
        exact ((Below.refl _ _).drew).alloc (by simp) _
    rcases hown'.2 with ⟨rfl, h0⟩ | ⟨g, cap, cur, rfl, _⟩
    · subst h0
      exact ⟨none, 0, w', hrun, hown', hBl⟩
    · exact ⟨some ⟨g, 0, none⟩, cap, w', hrun, hown', hBl⟩
theorem goesR_copy {P : Program} {o : Oper} {ρ : Operand → Value} {w : World} {K : Value → World → Prop} (s x : Operand) (t : TypeId)
    (ho : o.op = .call { callee := .builtin .append, args := #[s, x], argTypes := #[t, t] })
    (e : TypeId) (z : Value) (size bytes : Nat) (ht : P.underlying t = some (.slice e)) (hi : (P.info? e).map (fun i => (i.zero, i.size, i.bytes)) = some (some z, size, bytes)) (hzs : z.cells.size = size) (hsz : 0 < size)
    (base : Nat) (hv : NewRow base e (ρ s) w) (A : Option Addr) (n c : Nat) (xs : List Value) (hx : ρ x = .slice A n c) (hnn : A = none → n = 0 ∧ c = 0) (hr : Rd w size A n xs)
    (h1 : ∀ u ∈ xs, u.oneCell' = true) (hb : n * bytes ≤ 140737488355328) (hbase : base ≤ w.heap.size)
    (h : ∀ A' c' w', w'.ownsRow base e size (.slice A' n c') n xs → Below w.heap.size w w' → K (.slice A' n c') w') (hby : 0 < bytes := by decide) : goesR P o ρ w K := by
  obtain ⟨A', c', w', hrun, h2, h3⟩ := run_append_fresh (P := P) base t o.type e z size bytes ht hi hzs hsz hv A n c xs hnn hr h1 hb hbase hby
  unfold goesR execOp
  simp only [ho, resolve, invoke, builtin, Sem.run_bind, Sem.run_pure, Result.andThen_ok, List.map_toArray, List.map_cons, List.map_nil, hx, hrun]
  exact h A' c' w' h2 h3
theorem goesR_new {P : Program} {o : Oper} {ρ : Operand → Value} {w : World} {K : Value → World → Prop} {t e : TypeId} (ho : o.op = .buildSlice t 0 #[]) (z : Value) (size bytes : Nat) (ht : P.underlying t = some (.slice e)) (hi : (P.info? e).map (fun i => (i.zero, i.size, i.bytes)) = some (some z, size, bytes))
    (h : K (.slice (some ⟨w.heap.size, 0, none⟩) 0 0) (w.alloc (.cells #[] e))) : goesR P o ρ w K := by
  obtain ⟨i, hi1, _⟩ := info_parts hi
  unfold goesR execOp
  simp only [ho, Instr.buildSlice]
  simp [run_underlying ht, typeInfo, sizeOf, hi1, newRow, Result.andThen, Instr.fill, show Array.range 0 = #[] from rfl]
  exact h
end Go.Proofs.Ytpnejmlbfadaaaa
