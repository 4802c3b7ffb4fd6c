/- Laws of append: a whole row behind a row of the call's own. No condition. -/
import Derived.Test.YtpnejmlbfadaaaaKit
import Derived.Test.YtpnejmlbfadaaaaOpen
import Derived.Lib.SliceRun
namespace Go.Proofs.Ytpnejmlbfadaaaa
open Go.RowKit

theorem own_nil {w : World} {base : Nat} {e : TypeId} {size n c : Nat} {A : Option Addr} {xs : List Value} (h : w.ownsRow base e size (.slice A n c) n xs) : A = none → n = 0 ∧ c = 0 := by
  intro hA
  subst hA
  rcases h.2 with ⟨h0, _⟩ | ⟨g, cap, cur, hv, _⟩
  · simpa using h0
  · simp at hv

theorem pcell {base : Nat} {W w1 : World} (hb : Below base W w1) : (∀ b o, b < base → w1.cell? ⟨b, o, none⟩ = W.cell? ⟨b, o, none⟩) ∧ (∀ b o, b < base → w1.frozen? ⟨b, o, none⟩ = W.frozen? ⟨b, o, none⟩) :=
  ⟨fun b o h => hb.cell (p := ⟨b, o, none⟩) h, fun b o h => hb.frozen (p := ⟨b, o, none⟩) h⟩
theorem rcell {W w1 : World} {row : Option Nat} (hb : W.grownBy w1 row) : (∀ b o, b < W.heap.size → row ≠ some b → w1.cell? ⟨b, o, none⟩ = W.cell? ⟨b, o, none⟩) ∧ (∀ b o, b < W.heap.size → row ≠ some b → w1.frozen? ⟨b, o, none⟩ = W.frozen? ⟨b, o, none⟩) :=
  ⟨fun b o h hn => World.cell?_of_block (w := W) (a := ⟨b, o, none⟩) (hb.block b h (by first | exact hn | exact fun e => hn e.symm)), fun b o h hn => World.frozen?_of_block (w := W) (a := ⟨b, o, none⟩) (hb.block b h (by first | exact hn | exact fun e => hn e.symm))⟩
theorem own_row {w : World} {base : Nat} {e : TypeId} {size n c : Nat} {A : Option Addr} {xs : List Value} (h : w.ownsRow base e size (.slice A n c) n xs) : ∀ b, A.map (·.block) = some b → base ≤ b ∧ b < w.heap.size := fun b hb => h.lt b (by rw [ownBlock_slice]; exact hb)
theorem own_ne {w : World} {base : Nat} {e : TypeId} {size n c : Nat} {A : Option Addr} {xs : List Value} (h : w.ownsRow base e size (.slice A n c) n xs) {b : Nat} (hb : b < base ∨ w.heap.size ≤ b) : A.map (·.block) ≠ some b := fun e => by
  have := own_row h b e
  omega
theorem own_setCell {w : World} {base : Nat} {e : TypeId} {size n c : Nat} {A : Option Addr} {xs : List Value} (h : w.ownsRow base e size (.slice A n c) n xs) (p : Addr) (v : Value) (hp : A.map (·.block) ≠ some p.block) : (w.setCell p v).ownsRow base e size (.slice A n c) n xs := by
  refine ⟨h.1, ?_⟩
  rcases h.2 with h0 | ⟨g, cap, cur, hv, hg, hh, r⟩
  · exact .inl h0
  · refine .inr ⟨g, cap, cur, hv, hg, ?_, r⟩
    simp only [Value.slice.injEq] at hv
    obtain ⟨rfl, _, _⟩ := hv
    have hne : p.block ≠ g := fun e => hp (by rw [e]; rfl)
    show (w.heap.modify p.block _)[g]? = _
    rw [Array.getElem?_modify, if_neg hne]
    exact hh
/-- Blocks of different kinds are different blocks. -/
theorem own_kind {w : World} {base : Nat} {e t : TypeId} {size n c g q : Nat} {xs : List Value} {cs : Array Value} {f : Nat × Nat} (h : w.ownsRow base e size (.slice (some ⟨g, 0, none⟩) n c) n xs) (hx : w.heap[q]? = some (.cells cs t f)) (hne : e ≠ t) : g ≠ q := by
  intro hgq
  subst hgq
  rcases h.2 with ⟨h0, _⟩ | ⟨g', cap, cur, hv, _, hh, _⟩
  · cases h0
  · simp only [Value.slice.injEq, Option.some.injEq, Addr.mk.injEq, and_true, true_and] at hv
    rw [← hv.1, hx] at hh
    simp only [Option.some.injEq, Obj.cells.injEq] at hh
    exact hne hh.2.1.symm
theorem own_grown {W w1 : World} {base : Nat} {e : TypeId} {size n c : Nat} {A : Option Addr} {xs : List Value} {row : Option Nat} (h : W.ownsRow base e size (.slice A n c) n xs) (hg : W.grownBy w1 row) (hne : ∀ b, A.map (·.block) = some b → row ≠ some b) : w1.ownsRow base e size (.slice A n c) n xs := by
  refine ⟨h.1, ?_⟩
  rcases h.2 with h0 | ⟨g, cap, cur, hv, hb, hh, r⟩
  · exact .inl h0
  · refine .inr ⟨g, cap, cur, hv, hb, ?_, r⟩
    simp only [Value.slice.injEq] at hv
    obtain ⟨rfl, _, _⟩ := hv
    have hlt : g < W.heap.size := (own_row h g rfl).2
    have hn := hne g rfl
    rw [hg.block g hlt (by first | exact hn | exact fun e => hn e.symm)]
    exact hh
/-- A name for the world behind a region. -/
theorem name_below {b : Nat} {a w' : World} {Q : Prop} (h : Below b a w' ∧ Q) : ∃ W, W = w' ∧ Below b a w' := ⟨w', rfl, h.1⟩
theorem al_cell {W : World} {o : Obj} {b x : Nat} {v : Option Value} (hl : b < W.heap.size) (h : W.cell? ⟨b, x, none⟩ = v) : (W.alloc o).cell? ⟨b, x, none⟩ = v := (((Below.refl W.heap.size W).alloc (Nat.le_refl _) o).cell (p := ⟨b, x, none⟩) hl).trans h
theorem al_frozen {W : World} {o : Obj} {b x : Nat} {v : Bool} (hl : b < W.heap.size) (h : W.frozen? ⟨b, x, none⟩ = v) : (W.alloc o).frozen? ⟨b, x, none⟩ = v := (((Below.refl W.heap.size W).alloc (Nat.le_refl _) o).frozen (p := ⟨b, x, none⟩) hl).trans h
theorem hk_alloc {a w : World} {Q : Prop} (h : Below a.heap.size a w ∧ Q) (o : Obj) : Below a.heap.size a (w.alloc o) := h.1.alloc h.1.size o
theorem hk_alloc2 {a w w' : World} {Q : Prop} (k : Below w.heap.size w w') (h : Below a.heap.size a w ∧ Q) (o : Obj) : Below a.heap.size a (w'.alloc o) := (below_step h.1 k).alloc (below_step h.1 k).size o
theorem below_al {a w : World} (h : Below a.heap.size a w) (o : Obj) : Below a.heap.size a (w.alloc o) := h.alloc h.size o
/-- Four writes into one block: its cells; and the row, the growth. -/
theorem set4_cells {W : World} {q : Nat} {a b c d : Value} (h0 : (W.cell? ⟨q, 0, none⟩).isSome = true) (h1 : (W.cell? ⟨q, 1, none⟩).isSome = true) (h2 : (W.cell? ⟨q, 2, none⟩).isSome = true) (h3 : (W.cell? ⟨q, 3, none⟩).isSome = true) :
    ((((W.setCell ⟨q, 0, none⟩ a).setCell ⟨q, 1, none⟩ b).setCell ⟨q, 2, none⟩ c).setCell ⟨q, 3, none⟩ d).cell? ⟨q, 0, none⟩ = some a ∧
    ((((W.setCell ⟨q, 0, none⟩ a).setCell ⟨q, 1, none⟩ b).setCell ⟨q, 2, none⟩ c).setCell ⟨q, 3, none⟩ d).cell? ⟨q, 1, none⟩ = some b ∧
    ((((W.setCell ⟨q, 0, none⟩ a).setCell ⟨q, 1, none⟩ b).setCell ⟨q, 2, none⟩ c).setCell ⟨q, 3, none⟩ d).cell? ⟨q, 2, none⟩ = some c ∧
    ((((W.setCell ⟨q, 0, none⟩ a).setCell ⟨q, 1, none⟩ b).setCell ⟨q, 2, none⟩ c).setCell ⟨q, 3, none⟩ d).cell? ⟨q, 3, none⟩ = some d := by
  refine ⟨?_, ?_, ?_, ?_⟩ <;> simp [go_sem, ↓cell_some, h0, h1, h2, h3]
theorem some_of {o : Option Value} {v : Value} (h : o = some v) : o.isSome = true := by rw [h]; rfl
theorem cell_drew (w : World) (a : Addr) : w.drew.cell? a = w.cell? a := rfl
theorem own_fresh (W : World) (base q : Nat) (e : TypeId) (size : Nat) (hq : q = W.heap.size) (hb : base ≤ q) : (W.alloc (.cells #[] e)).ownsRow base e size (.slice (some ⟨q, 0, none⟩) 0 0) 0 [] := by
  subst hq
  exact World.ownsRow_made W #[] 0 hb (Nat.zero_le _) (by simp)

theorem wpList_copy {P : Program} (W : World) {ops : Array Oper} {rest : List Oper} {o : Oper} {a : Act} {Q : Exit → Act → World → Prop} (hgd : o.guard = none) (s x : Operand) (t : TypeId)
    (ho : o.op = .call { callee := .builtin .append, args := #[s, x], argTypes := #[t, t] })
    (e : TypeId) (z : Value) (size bytes : Nat) (ht : P.underlying t = some (.slice e)) (hi : (P.info? e).map (fun i => (i.zero, i.size, i.bytes)) = some (some z, size, bytes)) (hzs : z.cells.size = size) (hsz : 0 < size)
    (base : Nat) (A0 : Option Addr) (n0 c0 : Nat) (xs0 : List Value) (hs : a.eval s = .slice A0 n0 c0) (hown : W.ownsRow base e size (.slice A0 n0 c0) n0 xs0)
    (A : Option Addr) (n c : Nat) (xs : List Value) (hx : a.eval x = .slice A n c) (hnn : A = none → n = 0 ∧ c = 0) (hr : Rd W size A n xs)
    (h1 : ∀ u ∈ xs, u.oneCell' = true) (hb : (n0 + n) * bytes ≤ 140737488355328) (hbase : base ≤ W.heap.size)
    (h : ∀ A' c' w', w'.ownsRow base e size (.slice A' (n0 + n) c') (n0 + n) (xs0 ++ xs) → W.grownBy w' (A0.map (·.block)) → Below base W w' → wpList P ops Q rest (a.put o.dst (.slice A' (n0 + n) c')) w') (hby : 0 < bytes := by decide) :
    wpList P ops Q (o :: rest) a W := by
  obtain ⟨i, hi1, hz, hsize, hby'⟩ := info_parts hi
  have h63 : n0 + n ≤ maxLen := by
    have : (n0 + n) * 1 ≤ (n0 + n) * bytes := Nat.mul_le_mul_left _ hby
    unfold maxLen
    omega
  cases A with
  | none =>
    obtain ⟨rfl, rfl⟩ := hnn rfl
    obtain rfl : xs = [] := List.eq_nil_of_length_eq_zero (by have := hr.1; omega)
    have hrun := run_append_owned_none (P := P) (w := W) base t o.type e i size ht hi1 _ _ _ hown
    refine wpList_plain hgd fun K hK' => ?_
    unfold Oper.wp
    simp [execOp, ho, resolve, invoke, builtin, hs, hx, hrun, Result.andThen]
    exact hK' _ _ (h A0 c0 W (by simpa using hown) (World.grownBy.refl _ _) (Below.refl _ _))
  | some ad =>
    refine wpList_append_own W hgd s x t ho base e i z size bytes ht hi1 hz hsize hby' hzs hsz _ n0 xs0 hs hown ad n c xs hx hr.1 ?_ h1 h63 hb hbase ?_
    · intro j u hj
      by_cases hn : 0 < n
      · obtain ⟨b, o', e', _, hc⟩ := hr.2 hn
        cases e'
        rw [Addr.add_lit]
        exact hc j u hj
      · have : xs = [] := List.eq_nil_of_length_eq_zero (by have := hr.1; rw [this, show n = 0 from by omega, Nat.zero_mul])
        subst this
        simp at hj
    · intro v' w' hown' hg _
      rw [ownBlock_slice] at hg
      have hB := below_of_own hown hg hbase
      rcases hown'.2 with ⟨rfl, h0⟩ | ⟨g, cap, cur, rfl, _⟩
      · rw [h0] at hown' h
        exact h none 0 w' hown' hg hB
      · exact h (some ⟨g, 0, none⟩) cap w' hown' hg hB
/-- A row's tail. -/
theorem flatMap_drop {α : Type} (f : α → List Value) (size : Nat) (hf : ∀ r, (f r).length = size) : ∀ (zs : List α) (k : Nat), (zs.drop k).flatMap f = (zs.flatMap f).drop (k * size)
  | [], k => by simp
  | z :: zs, 0 => by simp
  | z :: zs, k + 1 => by
    have h1 : (f z).drop ((k + 1) * size) = [] := List.drop_of_length_le (by rw [hf, Nat.add_mul]; omega)
    rw [List.drop_succ_cons, flatMap_drop f size hf zs k, List.flatMap_cons, List.drop_append, h1, List.nil_append, hf, Nat.add_mul, Nat.one_mul, Nat.add_sub_cancel]
theorem Rd.tail {α : Type} {w : World} {f : α → List Value} {size : Nat} (hf : ∀ r, (f r).length = size) {zs : List α} {b o n k : Nat} (h : Rd w size (some ⟨b, o, none⟩) n (zs.flatMap f)) (hn : zs.length = n) (hk : k ≤ n) : Rd w size (some ⟨b, o + k * size, none⟩) (n - k) ((zs.drop k).flatMap f) := by
  refine ⟨by rw [flatMap_length f size hf, List.length_drop, hn], fun h0 => ?_⟩
  obtain ⟨b', o', e, hlt, hc⟩ := h.2 (by omega)
  cases e
  refine ⟨b, o + k * size, rfl, hlt, fun j u hu => ?_⟩
  rw [flatMap_drop f size hf, List.getElem?_drop] at hu
  rw [Nat.add_assoc]
  exact hc _ u hu
end Go.Proofs.Ytpnejmlbfadaaaa
