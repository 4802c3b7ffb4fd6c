/- The steps of a walk in letters, on: append, slices of rows, new rows. No condition. -/
import Derived.Test.YtpnejmlbfadaaaaFlow
import Derived.Maps.AppendAt
namespace Go.Proofs.Ytpnejmlbfadaaaa
open Go.RowKit

/-- A row that was appended to: the new one, what became of memory, where it lies. -/
structure Apped (w w' : World) (base : Nat) (e : TypeId) (size : Nat) (A A' : Option Addr) (n' c' : Nat) (xs' : List Value) : Prop where
  own : w'.ownsRow base e size (.slice A' n' c') n' xs'
  grown : w.grownBy w' (A.map (·.block))
  lies : ∀ b, A'.map (·.block) = some b → A.map (·.block) = some b ∨ b = w.heap.size
theorem Apped.ne {w w' : World} {base : Nat} {e : TypeId} {size : Nat} {A A' : Option Addr} {n' c' q : Nat} {xs' : List Value} (h : Apped w w' base e size A A' n' c' xs') (hd : A.map (·.block) ≠ some q) (hq : q < w.heap.size) : A'.map (·.block) ≠ some q := fun e' => by
  rcases h.lies q e' with h1 | h1
  · exact hd h1
  · omega
theorem Apped.row {w w' : World} {base base2 : Nat} {e e2 : TypeId} {size size2 n2 c2 : Nat} {A A' B : Option Addr} {n' c' : Nat} {xs' ys : List Value} (h : Apped w w' base e size A A' n' c' xs') (hm : ∀ b, B.map (·.block) = some b → A.map (·.block) ≠ some b) (ho : w.ownsRow base2 e2 size2 (.slice B n2 c2) n2 ys) :
    ∀ b, B.map (·.block) = some b → A'.map (·.block) ≠ some b := fun b hb => h.ne (hm b hb) (own_row ho b hb).2
theorem Apped.ge {w w' : World} {base B : Nat} {e : TypeId} {size : Nat} {A A' : Option Addr} {n' c' : Nat} {xs' : List Value} (h : Apped w w' base e size A A' n' c' xs') (hA : ∀ b, A.map (·.block) = some b → B ≤ b) (hB : B ≤ w.heap.size) : ∀ b, A'.map (·.block) = some b → B ≤ b := fun b hb => by
  rcases h.lies b hb with h1 | h1
  · exact hA b h1
  · omega
theorem run_append_any {P : Program} (w : World) (base : Nat) (t ty e : TypeId) (z : Value) (size bytes : Nat) (ht : P.underlying t = some (.slice e)) (hi : (P.info? e).map (fun i => (i.zero, i.size, i.bytes)) = some (some z, size, bytes)) (hzs : z.cells.size = size) (hsz : 0 < size)
    (A : Option Addr) (n c : Nat) (xs : List Value) (hown : w.ownsRow base e size (.slice A n c) n xs) (A2 : Option Addr) (m c2 : Nat) (news : List Value) (hnn : A2 = none → m = 0 ∧ c2 = 0) (hr : Rd w size A2 m news)
    (h1 : ∀ u ∈ news, u.oneCell' = true) (hb : (n + m) * bytes ≤ 140737488355328) (hbase : base ≤ w.heap.size) (hby : 0 < bytes) :
    ∃ A' c' w', (Builtin.append_ #[t, t] ty #[.slice A n c, .slice A2 m c2]).run P w = .ok (.slice A' (n + m) c') w' ∧ Apped w w' base e size A A' (n + m) c' (xs ++ news) := by
  obtain ⟨i, hi1, hz, hsize, hby'⟩ := info_parts hi
  have h63 : n + m ≤ maxLen := by
    have : (n + m) * 1 ≤ (n + m) * bytes := Nat.mul_le_mul_left _ hby
    unfold maxLen
    omega
  cases A2 with
  | none =>
    obtain ⟨rfl, rfl⟩ := hnn rfl
    obtain rfl : news = [] := List.eq_nil_of_length_eq_zero (by have := hr.1; omega)
    have hrun := run_append_owned_none (P := P) (w := w) base t ty e i size ht hi1 _ _ _ hown
    exact ⟨A, c, w, hrun, by simpa using hown, World.grownBy.refl _ _, fun b hb => .inl hb⟩
  | some ad =>
    obtain ⟨v', w', hrun, hown', hg, hnil, hat⟩ := run_append_own_at (P := P) w base t ty e i z size bytes ht hi1 hz hsize hby' hzs hsz _ n xs hown ad m c2 news hr.1 (fun j u hj => by
      by_cases hn : 0 < m
      · obtain ⟨b, o', e', _, hc⟩ := hr.2 hn
        cases e'
        rw [Addr.add_lit]
        exact hc j u hj
      · have : news = [] := List.eq_nil_of_length_eq_zero (by have := hr.1; rw [this, show m = 0 from by omega, Nat.zero_mul])
        subst this
        simp at hj) h1 h63 hb hbase
    rw [ownBlock_slice] at hg hat
    rcases hown'.2 with ⟨rfl, h0⟩ | ⟨g, cap, cur, rfl, _⟩
    · refine ⟨none, 0, w', by rw [hrun, h0], ?_, hg, fun b hb => by cases hb⟩
      rw [h0] at hown' ⊢
      exact hown'
    · refine ⟨some ⟨g, 0, none⟩, cap, w', hrun, hown', hg, fun b hb => ?_⟩
      rw [ownBlock_slice] at hat
      rcases hat with h2 | h2
      · exact .inl (h2 ▸ hb)
      · rw [h2] at hb
        exact .inr (Option.some.inj hb).symm
section
variable {P : Program} {o : Oper} {ρ : Operand → Value} {w : World} {K : Value → World → Prop}
theorem g_append {s x : Operand} {t e : TypeId} (base : Nat) (z : Value) (size bytes : Nat) {A A2 : Option Addr} {n c m c2 n' : Nat} {xs news ys : List Value} (ho : o.op = .call { callee := .builtin .append, args := #[s, x], argTypes := #[t, t] }) (hs : ρ s = .slice A n c) (hx : ρ x = .slice A2 m c2)
    (ht : P.underlying t = some (.slice e)) (hi : (P.info? e).map (fun i => (i.zero, i.size, i.bytes)) = some (some z, size, bytes)) (hzs : z.cells.size = size) (hsz : 0 < size)
    (hown : w.ownsRow base e size (.slice A n c) n xs) (hnn : A2 = none → m = 0 ∧ c2 = 0) (hr : Rd w size A2 m news)
    (h1 : ∀ u ∈ news, u.oneCell' = true) (hb : (n + m) * bytes ≤ 140737488355328) (hbase : base ≤ w.heap.size) (hby : 0 < bytes) (hn' : n + m = n') (hys : xs ++ news = ys)
    (h : ∀ A' c' w', Apped w w' base e size A A' n' c' ys → K (.slice A' n' c') w') : goesR P o ρ w K := by
  subst hn' hys
  obtain ⟨A', c', w', hrun, ha⟩ := run_append_any (P := P) w base t o.type e z size bytes ht hi hzs hsz A n c xs hown A2 m c2 news hnn hr h1 hb hbase hby
  unfold goesR execOp
  simp only [ho, resolve, invoke, builtin, Sem.run_bind, Sem.run_pure, Result.andThen_ok, List.map_toArray, List.map_cons, List.map_nil, hs, hx, hrun]
  exact h _ _ _ ha
theorem g_append_fresh {s x : Operand} {t e : TypeId} (base : Nat) (z : Value) (size bytes : Nat) {A2 : Option Addr} {q m c2 : Nat} {news : List Value} (ho : o.op = .call { callee := .builtin .append, args := #[s, x], argTypes := #[t, t] }) (hs : ρ s = .slice (some ⟨q, 0, none⟩) 0 0) (hx : ρ x = .slice A2 m c2)
    (ht : P.underlying t = some (.slice e)) (hi : (P.info? e).map (fun i => (i.zero, i.size, i.bytes)) = some (some z, size, bytes)) (hzs : z.cells.size = size) (hsz : 0 < size)
    (hq : base ≤ q) (hh : w.heap[q]? = some (.cells #[] e (0, 0))) (hnn : A2 = none → m = 0 ∧ c2 = 0) (hr : Rd w size A2 m news) (h1 : ∀ u ∈ news, u.oneCell' = true) (hb : m * bytes ≤ 140737488355328) (hbase : base ≤ w.heap.size) (hby : 0 < bytes)
    (h : ∀ A' c' w', w'.ownsRow base e size (.slice A' m c') m news → Below w.heap.size w w' → K (.slice A' m c') w') : goesR P o ρ w K := by
  obtain ⟨A', c', w', hrun, h2, h3⟩ := run_append_fresh (P := P) (w := w) base t o.type e z size bytes ht hi hzs hsz ⟨q, rfl, hq, hh⟩ A2 m c2 news hnn hr h1 hb hbase hby
  unfold goesR execOp
  simp only [ho, resolve, invoke, builtin, Sem.run_bind, Sem.run_pure, Result.andThen_ok, List.map_toArray, List.map_cons, List.map_nil, hs, hx, hrun]
  exact h _ _ _ h2 h3
/-- A new row out of a block that is known whole. -/
theorem own_box_row {w : World} {base q : Nat} {e : TypeId} {size n : Nat} {cs : Array Value} {xs : List Value} (h : w.heap[q]? = some (.cells cs e (0, 0))) (hb : base ≤ q) (hn : cs.size = n * size) (hm : n ≤ maxLen) (hx : cs.toList = xs) : w.ownsRow base e size (.slice (some ⟨q, 0, none⟩) n n) n xs := by
  subst hx
  exact ⟨by simpa using hn, .inr ⟨q, n, cs, rfl, hb, h, Nat.le_refl _, hm, hn, List.take_of_length_le (by simp [hn])⟩⟩
theorem rd_box {w : World} {q : Nat} {e : TypeId} {size n : Nat} {cs : Array Value} {xs : List Value} (h : w.heap[q]? = some (.cells cs e (0, 0))) (hn : cs.size = n * size) (hx : cs.toList = xs) : Rd w size (some ⟨q, 0, none⟩) n xs := by
  subst hx
  refine ⟨by simpa using hn, fun _ => ⟨q, 0, rfl, lt_of_block h, fun j u hu => ?_⟩⟩
  rw [Nat.zero_add]
  exact box_cell h (by simpa using hu)
theorem g_bslice0 {T e : TypeId} (ho : o.op = .buildSlice T 0 #[]) (hu : P.underlying T = some (.slice e)) {sz : Nat} (hs : ∀ w, (Go.sizeOf e).run P w = .ok sz w) (h : ∀ q w', New w w' q #[] e → K (.slice (some ⟨q, 0, none⟩) 0 0) w') : goesR P o ρ w K := by
  unfold goesR execOp
  simp only [ho, Instr.buildSlice, Sem.run_bind, run_underlying hu w, Result.andThen_ok, hs]
  have h2 := h _ _ (new_alloc w #[] e)
  have hr : Array.map (fun _ : Nat => (default : Value)) (Array.range 0) = #[] := Array.eq_empty_of_size_eq_zero (by simp)
  simp [Instr.fill, newRow, hr]
  exact h2
/-- One element. -/
theorem g_bslice1 {T e : TypeId} {x : Operand} {v : Value} {sz : Nat} {z : Value} {cs : Array Value} (ho : o.op = .buildSlice T 1 #[(0, x)]) (hu : P.underlying T = some (.slice e)) (hs : ∀ w, (Go.sizeOf e).run P w = .ok sz w) (hz : ∀ w, (zeroValue e).run P w = .ok z w) (hx : ρ x = v)
    (hf : Instr.fill (fun i => some (i * sz, sz)) ((Array.range (1 * sz)).map (z.cells[· % z.cells.size]!)) [(0, v)] = some cs) (hsz : (1 * sz == 0) = false) (hbig : 1 * sz ≤ 2 ^ 24) (h : ∀ q w', New w w' q cs e → K (.slice (some ⟨q, 0, none⟩) 1 1) w') : goesR P o ρ w K := by
  have hz0 : ¬ 1 * sz = 0 := by simpa using hsz
  have hb : ¬ 1 * sz > 2 ^ 24 := by omega
  unfold goesR execOp
  simp only [ho, Instr.buildSlice, Sem.run_bind, run_underlying hu w, Result.andThen_ok, hs, hz, hx, if_neg hz0, if_neg hb, Sem.run_pure, List.map_toArray, List.map_cons, List.map_nil, hf, newRow]
  exact h _ _ (new_alloc w _ e)
/-! ### slices of rows -/
/-- The header of a row's tail. -/
structure Tail (size : Nat) (A A' : Option Addr) (n c k : Nat) : Prop where
  rd : ∀ {α : Type} {f : α → List Value} {w : World} {zs : List α}, (∀ r, (f r).length = size) → zs.length = n → k ≤ n → Rd w size A n (zs.flatMap f) → Rd w size A' (n - k) ((zs.drop k).flatMap f)
  nil : A' = none → A = none
theorem tail_of (size : Nat) (A : Option Addr) (n c k : Nat) (hnc : n ≤ c) : Tail size A (if c = k then A else A.map (·.add (k * size))) n c k := by
  refine ⟨fun {α} {f} {w} {zs} hf hn hk hr => ?_, fun h => ?_⟩
  · by_cases hck : c = k
    · have : n - k = 0 := by omega
      rw [List.drop_of_length_le (by omega), this]
      exact Rd.nil_
    · rw [if_neg hck]
      by_cases h0 : n = 0
      · have : n - k = 0 := by omega
        rw [List.drop_of_length_le (by omega), this]
        exact Rd.nil_
      · obtain ⟨b, o, rfl, _, _⟩ := hr.2 (by omega)
        rw [Option.map_some, Addr.add_lit]
        exact Rd.tail hf hr hn hk
  · split at h
    · exact h
    · cases A with
      | none => rfl
      | some a => cases h
/-- The address of a row's tail. -/
def tailA (size : Nat) (A : Option Addr) (c k : Nat) : Option Addr := if c = k then A else A.map (·.add (k * size))
theorem tailA_of (size : Nat) (A : Option Addr) (n c k : Nat) (hnc : n ≤ c) : Tail size A (tailA size A c k) n c k := tail_of size A n c k hnc
theorem g_tailD {T e : TypeId} {x y : Operand} {A A' : Option Addr} {n c k sz n' c' : Nat} (ho : o.op = .slice T x (some y) none none) (hx : ρ x = .slice A n c) (hy : ρ y = .int .i64 (k : Int)) (hu : P.underlying T = some (.slice e)) (hs : ∀ w, (Go.sizeOf e).run P w = .ok sz w)
    (hk : k ≤ n) (hn' : n - k = n') (hc' : c - k = c') (hA : A' = tailA sz A c k) (h : K (.slice A' n' c') w) : goesR P o ρ w K := by
  subst hn' hc' hA
  have h1 : (0 : Int) ≤ (k : Int) := by omega
  have h2 : (k : Int) ≤ (n : Int) := by omega
  unfold goesR execOp
  simp only [ho, hx, hy, Instr.sliceAt, Instr.slice, Instr.sliceBounds, Instr.sliceBound, asIntOf, Sem.run_bind, Sem.run_pure, Result.andThen_ok, run_underlying hu w, hs, h1, h2, and_self, if_true, Int.toNat_natCast, Option.map_some, Option.map_none, Option.isSome_none, Bool.false_eq_true, if_false]
  exact h
theorem g_tail {T e : TypeId} {x y : Operand} {A : Option Addr} {n c k sz n' c' : Nat} (ho : o.op = .slice T x (some y) none none) (hx : ρ x = .slice A n c) (hy : ρ y = .int .i64 (k : Int)) (hu : P.underlying T = some (.slice e)) (hs : ∀ w, (Go.sizeOf e).run P w = .ok sz w)
    (hk : k ≤ n) (hnc : n ≤ c) (hn' : n - k = n') (hc' : c - k = c') (h : ∀ A', Tail sz A A' n c k → K (.slice A' n' c') w) : goesR P o ρ w K := by
  subst hn' hc'
  have h1 : (0 : Int) ≤ (k : Int) := by omega
  have h2 : (k : Int) ≤ (n : Int) := by omega
  unfold goesR execOp
  simp only [ho, hx, hy, Instr.sliceAt, Instr.slice, Instr.sliceBounds, Instr.sliceBound, asIntOf, Sem.run_bind, Sem.run_pure, Result.andThen_ok, run_underlying hu w, hs, h1, h2, and_self, if_true, Int.toNat_natCast, Option.map_some, Option.map_none, Option.isSome_none, Bool.false_eq_true, if_false]
  exact h _ (tail_of sz A n c k hnc)
theorem g_head {T e : TypeId} {x y : Operand} {A : Option Addr} {n c k sz : Nat} (ho : o.op = .slice T x none (some y) none) (hx : ρ x = .slice A n c) (hy : ρ y = .int .i64 (k : Int)) (hu : P.underlying T = some (.slice e)) (hs : ∀ w, (Go.sizeOf e).run P w = .ok sz w)
    (hk : k ≤ c) (h : K (.slice A k c) w) : goesR P o ρ w K := by
  have h1 : (0 : Int) ≤ (k : Int) := by omega
  have h2 : (k : Int) ≤ (c : Int) := by omega
  unfold goesR execOp
  simp only [ho, hx, hy, Instr.sliceAt, Instr.slice, Instr.sliceBounds, Instr.sliceBound, asIntOf, Sem.run_bind, Sem.run_pure, Result.andThen_ok, run_underlying hu w, hs, h1, h2, and_self, if_true, Int.toNat_natCast, Option.map_some, Option.map_none, Option.isSome_none, Nat.zero_mul, Nat.sub_zero]
  have hA : (if c = 0 then A else A.map (·.add 0)) = A := by
    split
    · rfl
    · cases A with
      | none => rfl
      | some a => simp [Addr.add]
  rw [hA]
  exact h
theorem own_cap {base : Nat} {e : TypeId} {size n c : Nat} {A : Option Addr} {xs : List Value} (h : w.ownsRow base e size (.slice A n c) n xs) : n ≤ c ∧ c ≤ maxLen := by
  rcases h.2 with ⟨h1, h2⟩ | ⟨g, cap, cur, hv, _, _, h3, h4, _⟩
  · simp only [Value.slice.injEq] at h1
    exact ⟨by omega, by rw [h1.2.2]; exact Nat.zero_le _⟩
  · simp only [Value.slice.injEq] at hv
    obtain ⟨rfl, _, rfl⟩ := hv
    exact ⟨h3, h4⟩
theorem g_min {x y : Operand} {T T' : TypeId} {m n r : Int} (ho : o.op = .call { callee := .builtin .min, args := #[x, y], argTypes := #[T, T'] }) (hx : ρ x = .int .i64 m) (hy : ρ y = .int .i64 n) (hr : (if n < m then n else m) = r) (h : K (.int .i64 r) w) : goesR P o ρ w K := by
  subst hr
  unfold goesR execOp
  simp only [ho, resolve, invoke, builtin, Sem.run_bind, Sem.run_pure, Result.andThen_ok, List.map_toArray, List.map_cons, List.map_nil, hx, hy]
  simp [Builtin.min_, Builtin.min2]
  exact h
end
theorem Rd.take {α : Type} {w : World} {f : α → List Value} {size : Nat} (hf : ∀ r, (f r).length = size) {zs : List α} {A : Option Addr} {n k : Nat} (h : Rd w size A n (zs.flatMap f)) (hn : zs.length = n) (hk : k ≤ n) : Rd w size A k ((zs.take k).flatMap f) := by
  refine ⟨by rw [flatMap_length f size hf, List.length_take]; congr 1; omega, fun h0 => ?_⟩
  obtain ⟨b, o, e, hlt, hc⟩ := h.2 (by omega)
  refine ⟨b, o, e, hlt, fun j u hu => hc j u ?_⟩
  have hj := (List.getElem?_eq_some_iff.1 hu).1
  have e2 : zs.flatMap f = (zs.take k).flatMap f ++ (zs.drop k).flatMap f := by rw [← List.flatMap_append, List.take_append_drop]
  rw [e2, List.getElem?_append_left hj]
  exact hu
theorem own_ne_type {w : World} {base base' : Nat} {e e' : TypeId} {size size' n n' c c' : Nat} {A A' : Option Addr} {xs xs' : List Value} (h : w.ownsRow base e size (.slice A n c) n xs) (h' : w.ownsRow base' e' size' (.slice A' n' c') n' xs') (hne : e ≠ e') : ∀ b, A.map (·.block) = some b → A'.map (·.block) ≠ some b := fun b h1 h2 => by
  rcases h.2 with ⟨h0, _⟩ | ⟨g, cap, cur, hv, _, hh, _⟩
  · simp only [Value.slice.injEq] at h0
    rw [h0.1] at h1
    cases h1
  · rcases h'.2 with ⟨h0, _⟩ | ⟨g', cap', cur', hv', _, hh', _⟩
    · simp only [Value.slice.injEq] at h0
      rw [h0.1] at h2
      cases h2
    · simp only [Value.slice.injEq] at hv hv'
      rw [hv.1] at h1
      rw [hv'.1] at h2
      cases h1
      cases h2
      rw [hh] at hh'
      simp only [Option.some.injEq, Obj.cells.injEq] at hh'
      exact hne hh'.2.1
/-- The length of the slice in a variable's cell: a loop's measure. -/
def lenAt (w : World) (q j : Nat) : Nat := match w.cell? ⟨q, j, none⟩ with | some (.slice _ n _) => n | _ => 0
theorem lenAt_of {w : World} {q j : Nat} {cs : Array Value} {T : TypeId} {f : Nat × Nat} {A : Option Addr} {n c : Nat} (h : w.heap[q]? = some (.cells cs T f)) (hj : cs[j]? = some (.slice A n c)) : lenAt w q j = n := by
  unfold lenAt
  rw [box_cell h hj]
theorem own_ne_cells {w : World} {base : Nat} {e T : TypeId} {size n c q : Nat} {A : Option Addr} {xs : List Value} {cs : Array Value} {f : Nat × Nat} (h : w.ownsRow base e size (.slice A n c) n xs) (hq : w.heap[q]? = some (.cells cs T f)) (hne : e ≠ T) : A.map (·.block) ≠ some q := fun h1 => by
  rcases h.2 with ⟨h0, _⟩ | ⟨g, cap, cur, hv, _, hh, _⟩
  · simp only [Value.slice.injEq] at h0
    rw [h0.1] at h1
    cases h1
  · simp only [Value.slice.injEq] at hv
    rw [hv.1] at h1
    cases h1
    rw [hh] at hq
    simp only [Option.some.injEq, Obj.cells.injEq] at hq
    exact hne hq.2.1
theorem neb_map {p q : Nat} (h : NeB p q) : (some (⟨p, 0, none⟩ : Addr)).map (·.block) ≠ some q := fun e => h.ne (Option.some.inj e)
theorem row_ne_box {A : Option Addr} {q : Nat} (h : A.map (·.block) ≠ some q) : ∀ b, A.map (·.block) = some b → (some (⟨q, 0, none⟩ : Addr)).map (·.block) ≠ some b := fun _ h1 h2 => h (h1.trans h2.symm)
theorem ge_box {B q : Nat} (h : B ≤ q) : ∀ b, (some (⟨q, 0, none⟩ : Addr)).map (·.block) = some b → B ≤ b := fun b e => by cases e; exact h
theorem none_ne {q : Nat} : (none : Option Addr).map (·.block) ≠ some q := fun e => by cases e
theorem row_none {A : Option Addr} : ∀ b, A.map (·.block) = some b → (none : Option Addr).map (·.block) ≠ some b := fun _ _ e => by cases e
theorem ge_none {B : Nat} : ∀ b, (none : Option Addr).map (·.block) = some b → B ≤ b := fun _ e => by cases e
end Go.Proofs.Ytpnejmlbfadaaaa
