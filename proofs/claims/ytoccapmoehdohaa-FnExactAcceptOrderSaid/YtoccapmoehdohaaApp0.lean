/- A fresh row that nothing was laid into has no room; a fresh row is no block of its own that holds another element. No condition. -/
import Derived.Test.YtoccapmoehdohaaBdStep
import Derived.Test.YtoccapmoehdohaaDrawnJ
namespace Go.Proofs.Ytoccapmoehdohaa
open Go.RowKit
set_option linter.unusedSimpArgs false
set_option linter.unusedVariables false

theorem run_append_fresh0 {P : Program} {w : World} (base : Nat) (t ty e : TypeId) (z : Value) (size bytes : Nat) (ht : P.underlying t = some (.slice e)) (hi : (P.info? e).map (fun i => (i.zero, i.size, i.bytes)) = some (some z, size, bytes)) (hzs : z.cells.size = size) (hsz : 0 < size)
    {v : Value} (hv : NewRow base e v w) (A : Option Addr) (n c : Nat) (xs : List Value) (hnn : A = none → n = 0 ∧ c = 0) (hr : Rd w size A n xs)
    (h1 : ∀ u ∈ xs, u.oneCell' = true) (hb : n * bytes ≤ 140737488355328) (hbase : base ≤ w.heap.size) (hby : 0 < bytes) :
    ∃ A' c' w', (Builtin.append_ #[t, t] ty #[v, .slice A n c]).run P w = .ok (.slice A' n c') w' ∧ w'.ownsRow base e size (.slice A' n c') n xs ∧ Below w.heap.size w w' ∧ (n = 0 → c' = 0) := by
  obtain ⟨A', c', w', hrun, g1, g2⟩ := run_append_fresh (P := P) base t ty e z size bytes ht hi hzs hsz hv A n c xs hnn hr h1 hb hbase hby
  refine ⟨A', c', w', hrun, g1, g2, fun hn => ?_⟩
  obtain ⟨i, hi1, hz, hsize, hby'⟩ := info_parts hi
  have hown := hv.own size
  obtain ⟨q, rfl, hq, hqh⟩ := hv
  obtain rfl : xs = [] := List.eq_nil_of_length_eq_zero (by rw [hr.1, hn, Nat.zero_mul])
  subst hn
  cases A with
  | none =>
    obtain ⟨_, rfl⟩ := hnn rfl
    have h2 := run_append_owned_none (P := P) (w := w) base t ty e i size ht hi1 _ _ _ hown
    rw [hrun] at h2
    injection h2 with h3 _
    injection h3
  | some ad =>
    have h2 := run_append_room (P := P) (w := w) t ty e i ht hi1 q 0 0 #[] hqh ad 0 c [] (by simp) (fun j u hj => by simp at hj) h1 (by omega) (by simp)
    rw [hrun] at h2
    injection h2 with h3 _
    injection h3
theorem g_append_fresh0 {P : Program} {o : Oper} {ρ : Operand → Value} {w : World} {K : Value → World → Prop} {s x : Operand} {t e : TypeId} (base : Nat) (z : Value) (size bytes : Nat) {A2 : Option Addr} {q m c2 : Nat} {news : List Value} (ho : o.op = .call { callee := .builtin .append, args := #[s, x], argTypes := #[t, t] }) (hs : ρ s = .slice (some ⟨q, 0, none⟩) 0 0) (hx : ρ x = .slice A2 m c2)
    (ht : P.underlying t = some (.slice e)) (hi : (P.info? e).map (fun i => (i.zero, i.size, i.bytes)) = some (some z, size, bytes)) (hzs : z.cells.size = size) (hsz : 0 < size)
    (hq : base ≤ q) (hh : w.heap[q]? = some (.cells #[] e (0, 0))) (hnn : A2 = none → m = 0 ∧ c2 = 0) (hr : Rd w size A2 m news) (h1 : ∀ u ∈ news, u.oneCell' = true) (hb : m * bytes ≤ 140737488355328) (hbase : base ≤ w.heap.size) (hby : 0 < bytes)
    (h : ∀ A' c' w', w'.ownsRow base e size (.slice A' m c') m news → (m = 0 → c' = 0) → Below w.heap.size w w' → K (.slice A' m c') w') : goesR P o ρ w K := by
  obtain ⟨A', c', w', hrun, h2, h3, h4⟩ := run_append_fresh0 (P := P) (w := w) base t o.type e z size bytes ht hi hzs hsz ⟨q, rfl, hq, hh⟩ A2 m c2 news hnn hr h1 hb hbase hby
  unfold goesR execOp
  simp only [ho, resolve, invoke, builtin, Sem.run_bind, Sem.run_pure, Result.andThen_ok, List.map_toArray, List.map_cons, List.map_nil, hs, hx, hrun]
  exact h _ _ _ h2 h4 h3
theorem own_ne_wait {w : World} {base n c q : Nat} {e : TypeId} {A : Option Addr} {xs : List EWaiting} {x : EWaiting} (h : w.ownsRow base e 5 (.slice A n c) n (xs.flatMap cWaiting)) (hq : w.heap[q]? = some (.cells #[.int .i64 x.f0, .int .i64 x.f1, .int .i64 x.f2, .int .i64 x.f3, .int .i64 x.f4] e (0, 0))) (hz : n = 0 → c = 0) (hx : ∀ y ∈ xs, y.f0 ≠ x.f0) : A.map (·.block) ≠ some q := by
  intro e0
  have hl : xs.length = n := own_lenOf (by decide) cWaiting_len h
  rcases h.2 with ⟨hv, h0⟩ | ⟨g, cap, cur, hv, hb, hh, h3, h4, h5, h6⟩
  · simp only [Value.slice.injEq] at hv
    rw [hv.1] at e0
    cases e0
  · simp only [Value.slice.injEq, true_and] at hv
    obtain ⟨rfl, rfl⟩ := hv
    cases e0
    rw [hq] at hh
    injection hh with hh
    injection hh with hh
    subst hh
    simp at h5
    have hc : c = 1 := by omega
    subst hc
    have hn : n = 1 := by
      rcases Nat.eq_zero_or_pos n with h7 | h7
      · have := hz h7; omega
      · omega
    subst hn
    match xs, hl with
    | [y], _ =>
      simp [cWaiting] at h6
      exact hx y (by simp) h6.1.symm
theorem os_lt {t : Int} {os : List EWaiting} (h : osOk t os = true) : ∀ y ∈ os, y.f0 < t := fun y hy => by
  obtain ⟨k, hk, rfl⟩ := List.mem_iff_getElem.1 hy
  unfold osOk osTo at h
  simp only [Bool.and_eq_true] at h
  have := List.all_eq_true.1 h.2 k (List.mem_range.2 hk)
  unfold osAt at this
  rw [wAt_eq hk] at this
  simp only [Bool.and_eq_true] at this
  have := inB_true this.2.1
  omega
end Go.Proofs.Ytoccapmoehdohaa
