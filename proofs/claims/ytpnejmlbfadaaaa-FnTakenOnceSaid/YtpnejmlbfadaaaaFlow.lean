/- The steps of a walk in which the frame and the world are letters: one law an operation, one a form of code. No condition. -/
import Derived.Test.YtpnejmlbfadaaaaDrawn
import Derived.Test.YtpnejmlbfadaaaaAppFresh
namespace Go.Proofs.Ytpnejmlbfadaaaa
open Go.RowKit

/-! ### The frame -/
structure St (n : Nat) (a : Act) : Prop where
  size : a.tmps.size = n
  nodef : a.defers = []
structure Put (d : Tmp) (v : Value) (a b : Act) : Prop where
  eqn : b = a.put (some d) v
theorem Put.st {n : Nat} {d : Tmp} {v : Value} {a b : Act} (p : Put d v a b) (s : St n a) : St n b := by
  obtain ⟨rfl⟩ := p
  exact ⟨(put_size a _ v).trans s.size, (put_defers a _ v).trans s.nodef⟩
theorem Put.at {n : Nat} {d : Tmp} {v : Value} {a b : Act} (p : Put d v a b) (s : St n a) (h : d < n) : b.eval (.tmp d) = v := by
  obtain ⟨rfl⟩ := p
  simp only [Act.eval, Array.getD_eq_getD_getElem?, put_same, s.size, h, if_true, Option.getD_some]
theorem Put.ne {d t : Tmp} {v : Value} {a b : Act} (p : Put d v a b) (h : (d == t) = false) : b.eval (.tmp t) = a.eval (.tmp t) := by
  obtain ⟨rfl⟩ := p
  have : (some d : Option Tmp) ≠ some t := fun e => by cases e; simp at h
  simp only [Act.eval, Array.getD_eq_getD_getElem?, put_other a _ v this]

/-! ### A region in its order -/
section
variable {P : Program} {ops : Array Oper} {Q : Exit → Act → World → Prop} {o : Oper} {rest : List Oper} {a : Act} {w : World} {d : Tmp}
theorem q_val (hg : o.guard = none) (hd : o.dst = some d) (h : goesR P o a.eval w (fun v w' => ∀ b, Put d v a b → wpList P ops Q rest b w')) : wpList P ops Q (o :: rest) a w :=
  wpList_plain hg fun K hK => goes_wp (show goes P o a w _ from h) fun v w' hv => hK _ _ (hv _ ⟨by rw [hd]⟩)
theorem q_eff (hg : o.guard = none) (hd : o.dst = none) (h : goesR P o a.eval w (fun _ w' => wpList P ops Q rest a w')) : wpList P ops Q (o :: rest) a w :=
  wpList_plain hg fun K hK => goes_wp (show goes P o a w _ from h) fun v w' hv => hK _ _ (by rw [hd]; exact hv)
theorem yield_of {g : Nat} {t : Tmp} {b : Bool} (ht : (ops[g]?).bind (·.dst) = some t) (hv : a.eval (.tmp t) = .bool b) : yielded ops a.tmps g = some b := by
  unfold yielded
  rw [ht]
  have hv' : a.tmps[t]?.getD undef = .bool b := by simpa [Act.eval, Array.getD_eq_getD_getElem?] using hv
  cases hx : a.tmps[t]? with
  | none =>
    rw [hx] at hv'
    simp [undef] at hv'
  | some v =>
    rw [hx] at hv'
    simp only [Option.getD_some] at hv'
    subst hv'
    simp [hx]
theorem q_take {g : Nat} {b : Bool} {t : Tmp} (hg : o.guard = some (g, b)) (ht : (ops[g]?).bind (·.dst) = some t) (hv : a.eval (.tmp t) = .bool b) (hd : o.dst = some d) (h : goesR P o a.eval w (fun v w' => ∀ b, Put d v a b → wpList P ops Q rest b w')) : wpList P ops Q (o :: rest) a w :=
  wpList_step fun K hK => by
    rw [if_pos (by unfold Region.wanted; rw [hg]; simp [yield_of ht hv])]
    exact goes_wp (show goes P o a w _ from h) fun v w' hv => hK _ _ (hv _ ⟨by rw [hd]⟩)
theorem q_skipU {g : Nat} {b : Bool} {t : Tmp} (hg : o.guard = some (g, b)) (ht : (ops[g]?).bind (·.dst) = some t) (hv : a.eval (.tmp t) = undef) (hd : o.dst = some d) (h : ∀ c, Put d undef a c → wpList P ops Q rest c w) : wpList P ops Q (o :: rest) a w :=
  wpList_step fun K hK => by
    have hy : yielded ops a.tmps g = none := by
      unfold yielded
      rw [ht]
      have hv' : a.tmps[t]?.getD undef = undef := by simpa [Act.eval, Array.getD_eq_getD_getElem?] using hv
      simp only [Option.bind_some]
      cases hx : a.tmps[t]? with
      | none => rfl
      | some v =>
        rw [hx] at hv'
        simp only [Option.getD_some] at hv'
        subst hv'
        rfl
    rw [if_neg (by unfold Region.wanted; rw [hg]; simp [hy])]
    exact hK _ _ (h _ ⟨by rw [hd]⟩)
theorem q_skip {g : Nat} {b : Bool} {t : Tmp} (hg : o.guard = some (g, b)) (ht : (ops[g]?).bind (·.dst) = some t) (hv : a.eval (.tmp t) = .bool (!b)) (hd : o.dst = some d) (h : ∀ c, Put d undef a c → wpList P ops Q rest c w) : wpList P ops Q (o :: rest) a w :=
  wpList_step fun K hK => by
    rw [if_neg (by unfold Region.wanted; rw [hg]; simp [yield_of ht hv])]
    exact hK _ _ (h _ ⟨by rw [hd]⟩)
end

/-! ### Memory -/
/-- A new block. -/
structure New (w w' : World) (q : Nat) (cs : Array Value) (T : TypeId) : Prop where
  below : Below w.heap.size w w'
  lo : w.heap.size ≤ q
  hi : q < w'.heap.size
  here : w'.heap[q]? = some (.cells cs T (0, 0))
/-- A block was written. -/
structure Wrote (w w' : World) (q : Nat) (cs : Array Value) (T : TypeId) : Prop where
  grown : w.grownBy w' (some q)
  size : w'.heap.size = w.heap.size
  here : w'.heap[q]? = some (.cells cs T (0, 0))
theorem new_alloc (w : World) (cs : Array Value) (T : TypeId) : New w (w.alloc (.cells cs T)) w.heap.size cs T :=
  ⟨(Below.refl _ _).alloc (Nat.le_refl _) _, Nat.le_refl _, by simp, by show (w.heap.push _)[w.heap.size]? = _; simp⟩
theorem wrote_cell {w : World} {q j : Nat} {cs cs' : Array Value} {T : TypeId} {v : Value} (hg : w.heap[q]? = some (.cells cs T (0, 0))) (hr : cs.setIfInBounds j v = cs') : Wrote w (w.setCell ⟨q, j, none⟩ v) q cs' T := by
  subst hr
  rw [setCell_eq_setRow w q j cs T (0, 0) v hg]
  exact ⟨setRow_grown w q _, setRow_size w q _, setRow_heap w q cs _ T _ hg⟩
theorem wrote_row {w : World} {q : Nat} {cs cs' : Array Value} {T : TypeId} (hg : w.heap[q]? = some (.cells cs T (0, 0))) : Wrote w (w.setRow q cs') q cs' T :=
  ⟨setRow_grown w q _, setRow_size w q _, setRow_heap w q cs _ T _ hg⟩
/-- A number of a block that the world has; two blocks; kept from arithmetic. -/
structure InW (q : Nat) (w : World) : Prop where
  lt : q < w.heap.size
structure NeB (p q : Nat) : Prop where
  ne : p ≠ q
structure GeB (b q : Nat) : Prop where
  le : b ≤ q
theorem NeB.symm {p q : Nat} (h : NeB p q) : NeB q p := ⟨fun e => h.ne e.symm⟩
theorem InW.below {q : Nat} {w w' : World} {B : Nat} (h : InW q w) (hb : Below B w w') : InW q w' := ⟨Nat.lt_of_lt_of_le h.lt hb.size⟩
theorem InW.grown {q : Nat} {w w' : World} {row : Option Nat} (h : InW q w) (hb : w.grownBy w' row) : InW q w' := ⟨Nat.lt_of_lt_of_le h.lt hb.size⟩
theorem InW.wrote {q p : Nat} {w w' : World} {cs : Array Value} {T : TypeId} (h : InW q w) (hb : Wrote w w' p cs T) : InW q w' := h.grown hb.grown
theorem New.in {w w' : World} {q : Nat} {cs : Array Value} {T : TypeId} (h : New w w' q cs T) : InW q w' := ⟨h.hi⟩
theorem New.ne {w w' : World} {p q : Nat} {cs : Array Value} {T : TypeId} (h : New w w' q cs T) (hp : InW p w) : NeB p q := ⟨fun e => by have := hp.lt; have := h.lo; omega⟩
theorem InW.of_box {w : World} {q : Nat} {o : Obj} (h : w.heap[q]? = some o) : InW q w := ⟨lt_of_block h⟩
/-- A block that stays. -/
theorem keep_below {w w' : World} {q : Nat} {o : Obj} (h : w.heap[q]? = some o) (hb : Below w.heap.size w w') : w'.heap[q]? = some o := (hb.block q (lt_of_block h)).trans h
theorem keep_wrote {w w' : World} {p q : Nat} {o : Obj} {cs : Array Value} {T : TypeId} (h : w.heap[q]? = some o) (hb : Wrote w w' p cs T) (hn : NeB p q) : w'.heap[q]? = some o :=
  (hb.grown.block q (lt_of_block h) (fun e => hn.ne (Option.some.inj e).symm)).trans h
theorem keep_grown {w w' : World} {q : Nat} {o : Obj} {row : Option Nat} (h : w.heap[q]? = some o) (hb : w.grownBy w' row) (hn : row ≠ some q) : w'.heap[q]? = some o :=
  (hb.block q (lt_of_block h) (fun e => hn e.symm)).trans h
/-- A row that stays. -/
theorem own_wrote {w w' : World} {base : Nat} {e : TypeId} {size n c q : Nat} {A : Option Addr} {xs : List Value} {cs : Array Value} {T : TypeId} (h : w.ownsRow base e size (.slice A n c) n xs) (hb : Wrote w w' q cs T) (hn : A.map (·.block) ≠ some q) : w'.ownsRow base e size (.slice A n c) n xs :=
  own_grown h hb.grown (fun b h1 h2 => by cases h2; exact hn h1)
theorem own_ne_box {w : World} {base : Nat} {e : TypeId} {size n c q : Nat} {A : Option Addr} {xs : List Value} (h : w.ownsRow base e size (.slice A n c) n xs) (hq : q < base) : A.map (·.block) ≠ some q := own_ne h (.inl hq)
theorem own_ne_new {w w' : World} {base : Nat} {e : TypeId} {size n c q : Nat} {A : Option Addr} {xs : List Value} {cs : Array Value} {T : TypeId} (h : w.ownsRow base e size (.slice A n c) n xs) (hq : New w w' q cs T) : A.map (·.block) ≠ some q := own_ne h (.inr hq.lo)
theorem own_ne_row {w w' : World} {base base' : Nat} {e e' : TypeId} {size size' n n' c c' : Nat} {A A' : Option Addr} {xs xs' : List Value} (h : w.ownsRow base e size (.slice A n c) n xs) (h' : w'.ownsRow base' e' size' (.slice A' n' c') n' xs') (hb : w.heap.size ≤ base') : ∀ b, A.map (·.block) = some b → A'.map (·.block) ≠ some b := fun b h1 h2 => by
  have := own_row h b h1
  have := own_row h' b h2
  omega
theorem ne_row_symm {A A' : Option Addr} (h : ∀ b, A.map (·.block) = some b → A'.map (·.block) ≠ some b) : ∀ b, A'.map (·.block) = some b → A.map (·.block) ≠ some b := fun b h1 h2 => h b h2 h1
theorem below_new {B : Nat} {w0 w w' : World} {q : Nat} {cs : Array Value} {T : TypeId} (h : Below B w0 w) (hB : B ≤ w.heap.size) (hn : New w w' q cs T) : Below B w0 w' := h.trans (hn.below.mono hB)
theorem below_wrote {B : Nat} {w0 w w' : World} {q : Nat} {cs : Array Value} {T : TypeId} (h : Below B w0 w) (hB : B ≤ w.heap.size) (hn : Wrote w w' q cs T) (hq : B ≤ q) : Below B w0 w' :=
  h.trans ((Below.refl B w).grown hn.grown hB (fun k hk => by cases hk; exact hq))
theorem below_grown {B : Nat} {w0 w w' : World} {row : Option Nat} (h : Below B w0 w) (hB : B ≤ w.heap.size) (hn : w.grownBy w' row) (hq : ∀ k, row = some k → B ≤ k) : Below B w0 w' :=
  h.trans ((Below.refl B w).grown hn hB hq)
/-- A cell of a block, of a part of a block. -/
theorem box_cell {w : World} {q j : Nat} {cs : Array Value} {T : TypeId} {f : Nat × Nat} {v : Value} (h : w.heap[q]? = some (.cells cs T f)) (hj : cs[j]? = some v) : w.cell? ⟨q, j, none⟩ = some v := (cell_of_row w q j cs T f h).trans hj
theorem box_part {w : World} {q o : Nat} {cs : Array Value} {T : TypeId} {f : Nat × Nat} {l : List Value} (h : w.heap[q]? = some (.cells cs T f)) (hl : (cs.toList.drop o).take l.length = l) : ∀ j u, l[j]? = some u → w.cell? ⟨q, o + j, none⟩ = some u := fun j u hu => by
  rw [cell_of_row w q _ cs T f h]
  rw [← hl] at hu
  have hj : j < l.length := by
    have := (List.getElem?_eq_some_iff.1 hu).1
    rw [List.length_take] at this
    omega
  rw [List.getElem?_take_of_lt hj, List.getElem?_drop, Array.getElem?_toList] at hu
  exact hu

/-! ### Operations -/
section
variable {P : Program} {o : Oper} {ρ : Operand → Value} {w : World} {K : Value → World → Prop}
theorem g_move {x : Operand} {v : Value} (ho : o.op = .move x) (hx : ρ x = v) (h : K v w) : goesR P o ρ w K := by
  unfold goesR execOp
  simp only [ho, hx]
  exact h
theorem g_assign {x : Operand} {v : Value} (ho : o.op = .assign x) (hx : ρ x = v) (h : K v w) : goesR P o ρ w K := by
  unfold goesR execOp
  simp only [ho, hx]
  exact h
theorem g_pick {c x y : Operand} {b : Bool} {v : Value} (ho : o.op = .pick c x y) (hc : ρ c = .bool b) (hx : (if b then ρ x else ρ y) = v) (h : K v w) : goesR P o ρ w K := by
  unfold goesR execOp
  simp only [ho, hc, asBool, Sem.run_bind, Sem.run_pure, Result.andThen_ok, hx]
  exact h
theorem g_pick_t {c x y : Operand} {v : Value} (ho : o.op = .pick c x y) (hc : ρ c = .bool true) (hx : ρ x = v) (h : K v w) : goesR P o ρ w K := g_pick ho hc (by simpa using hx) h
theorem g_pick_f {c x y : Operand} {v : Value} (ho : o.op = .pick c x y) (hc : ρ c = .bool false) (hx : ρ y = v) (h : K v w) : goesR P o ρ w K := g_pick ho hc (by simpa using hx) h
theorem g_box {x : Operand} {T : TypeId} {v : Value} {cs : Array Value} (ho : o.op = .box T x) (hx : ρ x = v) (hc : v.cells = cs) (h : ∀ q w', New w w' q cs T → K (.pointer (some ⟨q, 0, none⟩)) w') : goesR P o ρ w K := by
  subst hc
  unfold goesR execOp
  simp only [ho, hx, Instr.box, newVar, newRow, Sem.run_bind, Sem.run_pure]
  exact h _ _ (new_alloc w _ T)
theorem g_alloc {T : TypeId} {z : Value} {cs : Array Value} (ho : o.op = .alloc T) (hz : ∀ w, (zeroValue T).run P w = .ok z w) (hc : z.cells = cs) (h : ∀ q w', New w w' q cs T → K (.pointer (some ⟨q, 0, none⟩)) w') : goesR P o ρ w K := by
  subst hc
  unfold goesR execOp
  simp only [ho, Instr.alloc, newVar, newRow, Sem.run_bind, Sem.run_pure, Result.andThen_ok, hz]
  exact h _ _ (new_alloc w _ T)
theorem g_field {x : Operand} {T : TypeId} {i q off r : Nat} {fs : Array Field} {f : Field} {sz : Nat} (ho : o.op = .fieldAddr T x i) (hx : ρ x = .pointer (some ⟨q, off, none⟩)) (hu : P.underlying T = some (.struct fs)) (hi : fs[i]? = some f)
    (hs : ∀ w, (Go.sizeOf f.type).run P w = .ok sz w) (hz : (sz == 0) = false) (hr : off + f.offset = r) (h : K (.pointer (some ⟨q, r, none⟩)) w) : goesR P o ρ w K := by
  subst hr
  have hz' : ¬ sz = 0 := by simpa using hz
  unfold goesR execOp
  simp only [ho, hx, Instr.fieldAt, Sem.run_bind, run_underlying hu w, Result.andThen_ok, hi, Instr.sureAddr, Sem.run_pure, fieldPlace, hs, hz', if_false, Addr.add_lit]
  exact h
theorem g_load {x : Operand} {T : TypeId} {q off : Nat} {v : Value} (ho : o.op = .load T x) (hx : ρ x = .pointer (some ⟨q, off, none⟩)) (hT : ∀ w, (isAgg T).run P w = .ok false w) (hc : w.cell? ⟨q, off, none⟩ = some v) (h : K v w) : goesR P o ρ w K := by
  unfold goesR execOp
  simp only [ho, hx, Instr.loadAt, Instr.sureAddr, loadVar, Sem.run_bind, Sem.run_pure, Result.andThen_ok, hT, Bool.false_eq_true, if_false, run_load, hc]
  exact h
theorem g_loadA {x : Operand} {T : TypeId} {q off n : Nat} {l : List Value} (ho : o.op = .load T x) (hx : ρ x = .pointer (some ⟨q, off, none⟩)) (hT : ∀ w, (isAgg T).run P w = .ok true w) (hs : ∀ w, (Go.sizeOf T).run P w = .ok n w) (hn : l.length = n)
    (hc : ∀ j u, l[j]? = some u → w.cell? ⟨q, off + j, none⟩ = some u) (h : K (.agg l.toArray) w) : goesR P o ρ w K := by
  subst hn
  have hl := run_loadCells_list (P := P) w ⟨q, off, none⟩ l (fun j v hv => by rw [Addr.add_lit]; exact hc j v hv)
  unfold goesR execOp
  simp only [ho, hx, Instr.loadAt, Instr.sureAddr, loadVar, Sem.run_bind, Sem.run_pure, Result.andThen_ok, hT, hs, hl, if_true]
  exact h
theorem g_loadB {x : Operand} {T T' : TypeId} {q n : Nat} {cs : Array Value} {f : Nat × Nat} (ho : o.op = .load T x) (hx : ρ x = .pointer (some ⟨q, 0, none⟩)) (hT : ∀ w, (isAgg T).run P w = .ok true w) (hs : ∀ w, (Go.sizeOf T).run P w = .ok n w) (hn : cs.size = n)
    (hg : w.heap[q]? = some (.cells cs T' f)) (h : K (.agg cs) w) : goesR P o ρ w K :=
  g_loadA (l := cs.toList) ho hx hT hs (by simpa using hn) (fun j u hu => by rw [Nat.zero_add]; exact box_cell hg (by simpa using hu)) (by simpa using h)
theorem run_store1 {T : TypeId} {q j : Nat} {v : Value} {cs : Array Value} {T' : TypeId} (hs : ∀ w, (Go.sizeOf T).run P w = .ok 1 w) (h1 : v.oneCell' = true) (hg : w.heap[q]? = some (.cells cs T' (0, 0))) (hj : j < cs.size) :
    (storeVar T ⟨q, j, none⟩ v).run P w = .ok () (w.setCell ⟨q, j, none⟩ v) := by
  have hv : v.cells = #[v] := by cases v <;> first | rfl | cases h1
  have hc : w.cell? ⟨q, j, none⟩ = some cs[j] := by rw [cell_of_row w q j cs T' _ hg]; exact Array.getElem?_eq_getElem hj
  have hf : w.frozen? ⟨q, j, none⟩ = false := by simp [World.frozen?, hg]
  have hst : (store ((⟨q, j, none⟩ : Addr).add 0) v).run P w = .ok () (w.setCell ⟨q, j, none⟩ v) := by
    rw [Addr.add_lit, Nat.add_zero, run_store P w _ v _ h1, hc]
    simp [hf]
  simp only [storeVar, hv, Sem.run_bind, hs, Result.andThen_ok, storeCells, List.size_toArray, List.length_cons, List.length_nil, Nat.zero_add, ne_eq, not_true_eq_false, if_false, hst]
  rfl
theorem g_store {x y : Operand} {T T' : TypeId} {q j : Nat} {v : Value} {cs cs' : Array Value} (ho : o.op = .store T x y) (hx : ρ x = .pointer (some ⟨q, j, none⟩)) (hy : ρ y = v) (hs : ∀ w, (Go.sizeOf T).run P w = .ok 1 w) (h1 : v.oneCell' = true)
    (hg : w.heap[q]? = some (.cells cs T' (0, 0))) (hj : j < cs.size) (hr : cs.setIfInBounds j v = cs') (h : ∀ w', Wrote w w' q cs' T' → K undef w') : goesR P o ρ w K := by
  unfold goesR execOp
  simp only [ho, hx, hy, Instr.storeAt, Instr.sureAddr, Sem.run_bind, Sem.run_pure, Result.andThen_ok, run_store1 hs h1 hg hj]
  exact h _ (wrote_cell hg hr)
theorem run_storeB {T : TypeId} {q n : Nat} {cs old : Array Value} {T' : TypeId} (hs : ∀ w, (Go.sizeOf T).run P w = .ok n w) (hn : cs.size = n) (h1 : cs.all (·.oneCell') = true) (hg : w.heap[q]? = some (.cells old T' (0, 0))) (ho : old.size = n) :
    (storeVar T ⟨q, 0, none⟩ (.agg cs)).run P w = .ok () (w.setRow q cs) := by
  subst hn
  have := run_storeCells_from (P := P) q T' cs.toList 0 old w hg (by simp; omega) (fun v hv => (Array.all_eq_true_iff_forall_mem.1 h1) v (by simpa using hv))
  simp [storeVar, hs, Value.cells, this]
theorem g_storeB {x y : Operand} {T T' : TypeId} {q n : Nat} {cs old : Array Value} (ho : o.op = .store T x y) (hx : ρ x = .pointer (some ⟨q, 0, none⟩)) (hy : ρ y = .agg cs) (hs : ∀ w, (Go.sizeOf T).run P w = .ok n w) (hn : cs.size = n) (h1 : cs.toList.all (·.oneCell') = true)
    (hg : w.heap[q]? = some (.cells old T' (0, 0))) (hold : old.size = n) (h : ∀ w', Wrote w w' q cs T' → K undef w') : goesR P o ρ w K := by
  have h1 : cs.all (·.oneCell') = true := by rw [← Array.all_toList]; exact h1
  unfold goesR execOp
  simp only [ho, hx, hy, Instr.storeAt, Instr.sureAddr, Sem.run_bind, Sem.run_pure, Result.andThen_ok, run_storeB hs hn h1 hg hold]
  exact h _ (wrote_row hg)
theorem arr1 {x : Operand} {u : Value} (hx : ρ x = u) : (#[x] : Array Operand).map ρ = #[u] := by subst hx; simp
theorem arr2 {x y : Operand} {u v : Value} (hx : ρ x = u) (hy : ρ y = v) : (#[x, y] : Array Operand).map ρ = #[u, v] := by subst hx hy; simp
theorem arr3 {x y z : Operand} {u v t : Value} (hx : ρ x = u) (hy : ρ y = v) (hz : ρ z = t) : (#[x, y, z] : Array Operand).map ρ = #[u, v, t] := by subst hx hy hz; simp
theorem arr4 {x y z s : Operand} {u v t r : Value} (hx : ρ x = u) (hy : ρ y = v) (hz : ρ z = t) (hs : ρ s = r) : (#[x, y, z, s] : Array Operand).map ρ = #[u, v, t, r] := by subst hx hy hz hs; simp
theorem g_call {f : FuncId} {args : Array Value} {os : Array Operand} {ts : Array TypeId} (ho : o.op = .call { callee := .value (.func f), args := os, argTypes := ts }) (hρ : ρ (.func f) = .func (.func f) #[] #[]) (hf : ∀ (args : Array Value) (w : World), (callFunc f args).run P w = .ok (.enter f args) w)
    (ha : os.map ρ = args) (h : Calls P f args w (fun e w'' => ∃ v, e = .returned v ∧ K v w'')) : goesR P o ρ w K := by
  unfold goesR execOp
  simp only [ho, resolve, hρ, ha, Deferred.ofValue, Sem.run_bind, Sem.run_pure, Result.andThen_ok, invoke, Array.append_empty, hf]
  simpa using h
theorem g_extract {x : Operand} {i : Nat} {vs : Array Value} {v : Value} (ho : o.op = .extract x i) (hx : ρ x = .tuple vs) (hi : vs[i]? = some v) (h : K v w) : goesR P o ρ w K := by
  unfold goesR execOp
  simp only [ho, hx, Instr.extract, hi]
  go_simp
  exact h
theorem g_len {x : Operand} {T e : TypeId} {A : Option Addr} {n c : Nat} (ho : o.op = .call { callee := .builtin .len, args := #[x], argTypes := #[T] }) (hu : P.underlying T = some (.slice e)) (hx : ρ x = .slice A n c) (h : K (.int .i64 n) w) : goesR P o ρ w K := by
  unfold goesR execOp
  simp only [ho]
  go_simp
  exact h
theorem g_lenS {x : Operand} {T : TypeId} {l : List UInt8} (ho : o.op = .call { callee := .builtin .len, args := #[x], argTypes := #[T] }) (hu : P.underlying T = some .string) (hx : ρ x = .string ⟨l.toArray⟩) (h : K (.int .i64 l.length) w) : goesR P o ρ w K := by
  unfold goesR execOp
  simp only [ho]
  go_simp
  exact h
theorem g_not {x : Operand} {T : TypeId} {b : Bool} (ho : o.op = .unOp .not T x) (hx : ρ x = .bool b) (h : K (.bool (!b)) w) : goesR P o ρ w K := by
  unfold goesR execOp
  simp only [ho]
  go_simp
  exact h
section ints
variable {x y : Operand} {T T' : TypeId} {m n : Int}
theorem g_add (ho : o.op = .binOp .add T x y T') (hx : ρ x = .int .i64 m) (hy : ρ y = .int .i64 n) (hb : -9223372036854775808 ≤ m + n ∧ m + n ≤ 9223372036854775807) {r : Int} (hr : m + n = r) (h : K (.int .i64 r) w) : goesR P o ρ w K := by
  subst hr
  unfold goesR execOp
  simp only [ho]
  have hw := IntWalk.i64_in _ hb
  go_simp
  exact h
theorem g_sub (ho : o.op = .binOp .sub T x y T') (hx : ρ x = .int .i64 m) (hy : ρ y = .int .i64 n) (hb : -9223372036854775808 ≤ m - n ∧ m - n ≤ 9223372036854775807) {r : Int} (hr : m - n = r) (h : K (.int .i64 r) w) : goesR P o ρ w K := by
  subst hr
  unfold goesR execOp
  simp only [ho]
  have hw := IntWalk.i64_in _ hb
  go_simp
  exact h
theorem g_lss (ho : o.op = .binOp .lss T x y T') (hx : ρ x = .int .i64 m) (hy : ρ y = .int .i64 n) (h : K (.bool (decide (m < n))) w) : goesR P o ρ w K := by
  unfold goesR execOp
  simp only [ho]
  go_simp
  exact h
theorem g_leq (ho : o.op = .binOp .leq T x y T') (hx : ρ x = .int .i64 m) (hy : ρ y = .int .i64 n) (h : K (.bool (decide (m ≤ n))) w) : goesR P o ρ w K := by
  unfold goesR execOp
  simp only [ho]
  go_simp
  exact h
theorem g_gtr (ho : o.op = .binOp .gtr T x y T') (hx : ρ x = .int .i64 m) (hy : ρ y = .int .i64 n) (h : K (.bool (decide (n < m))) w) : goesR P o ρ w K := by
  unfold goesR execOp
  simp only [ho]
  go_simp
  exact h
theorem g_geq (ho : o.op = .binOp .geq T x y T') (hx : ρ x = .int .i64 m) (hy : ρ y = .int .i64 n) (h : K (.bool (decide (n ≤ m))) w) : goesR P o ρ w K := by
  unfold goesR execOp
  simp only [ho]
  go_simp
  exact h
theorem g_eql (ho : o.op = .binOp .eql T x y T') (hx : ρ x = .int .i64 m) (hy : ρ y = .int .i64 n) (h : K (.bool (decide (m = n))) w) : goesR P o ρ w K := by
  unfold goesR execOp
  simp only [ho]
  go_simp
  exact h
theorem g_neq (ho : o.op = .binOp .neq T x y T') (hx : ρ x = .int .i64 m) (hy : ρ y = .int .i64 n) (h : K (.bool (!decide (m = n))) w) : goesR P o ρ w K := by
  unfold goesR execOp
  simp only [ho]
  go_simp
  exact h
end ints
theorem g_index {x y : Operand} {T e : TypeId} {b off n c k sz r : Nat} (ho : o.op = .indexAddr T x y) (hx : ρ x = .slice (some ⟨b, off, none⟩) n c) (hy : ρ y = .int .i64 (k : Int)) (hu : P.underlying T = some (.slice e)) (hs : ∀ w, (Go.sizeOf e).run P w = .ok sz w) (hk : k < n) (hr : off + k * sz = r)
    (h : K (.pointer (some ⟨b, r, none⟩)) w) : goesR P o ρ w K := by
  subst hr
  have hk1 : (0 : Int) ≤ (k : Int) := by omega
  have hk2 : (k : Int) < (n : Int) := by omega
  unfold goesR execOp
  simp only [ho, hx, hy, Instr.indexAt, asIntOf, Sem.run_bind, Sem.run_pure, Result.andThen_ok, run_underlying hu w, hs, hk1, hk2, and_self, if_true, Int.toNat_natCast, Addr.add_lit]
  exact h
end

theorem slice_at {A A' : Option Addr} {n c : Nat} (h : A = A') : Value.slice A n c = Value.slice A' n c := by rw [h]
theorem elem_below {w wx : World} {b o m size : Nat} {l : List Value} (hc : ∀ j u, j < size → l[j]? = some u → w.cell? ⟨b, o + (m + j), none⟩ = some u) (hb : Below w.heap.size w wx) (hlt : b < w.heap.size) : ∀ j u, j < size → l[j]? = some u → wx.cell? ⟨b, o + (m + j), none⟩ = some u :=
  fun j u hj hu => (hb.cell (p := ⟨b, o + (m + j), none⟩) hlt).trans (hc j u hj hu)
section
variable {P : Program} {o : Oper} {ρ : Operand → Value} {w : World}
theorem l_move {x : Operand} {v : Value} (ho : o.op = .move x) (hx : ρ x = v) : (execOp ρ o).run P w = .ok (.value v) w := by
  unfold execOp
  simp only [ho, hx, Sem.run_pure]
theorem l_extract {x : Operand} {i : Nat} {vs : Array Value} {v : Value} (ho : o.op = .extract x i) (hx : ρ x = .tuple vs) (hi : vs[i]? = some v) : (execOp ρ o).run P w = .ok (.value v) w := by
  unfold execOp
  simp only [ho, hx, Instr.extract, hi]
  go_simp
theorem l_assign {x : Operand} {v : Value} (ho : o.op = .assign x) (hx : ρ x = v) : (execOp ρ o).run P w = .ok (.value v) w := by
  unfold execOp
  simp only [ho, hx, Sem.run_pure]
theorem l_fieldAddr {x : Operand} {T : TypeId} {i q off r : Nat} {fs : Array Field} {f : Field} {sz : Nat} (ho : o.op = .fieldAddr T x i) (hx : ρ x = .pointer (some ⟨q, off, none⟩)) (hu : P.underlying T = some (.struct fs)) (hi : fs[i]? = some f)
    (hs : ∀ w, (Go.sizeOf f.type).run P w = .ok sz w) (hz : (sz == 0) = false) (hr : off + f.offset = r) : (execOp ρ o).run P w = .ok (.value (.pointer (some ⟨q, r, none⟩))) w := by
  subst hr
  have hz' : ¬ sz = 0 := by simpa using hz
  unfold execOp
  simp only [ho, hx, Instr.fieldAt, Sem.run_bind, run_underlying hu w, Result.andThen_ok, hi, Instr.sureAddr, Sem.run_pure, fieldPlace, hs, hz', if_false, Addr.add_lit]
end
/-! ### Code -/
section
variable {P : Program} {Q : Exit → Act → World → Prop} {a : Act} {w : World}
theorem c_true {c : Operand} {x y : Code} (hc : a.eval c = .bool true) (h : x.wp P Q a w) : (Code.cond c x y).wp P Q a w := wp_cond_true hc h
theorem c_false {c : Operand} {x y : Code} (hc : a.eval c = .bool false) (h : y.wp P Q a w) : (Code.cond c x y).wp P Q a w := wp_cond_false hc h
theorem enter {f : FuncId} {fn : Func} {c : Code} {args : Array Value} {R : Ending → World → Prop} (n : Nat) (hf : P.funcs[f]? = some fn) (hb : fn.body = some c) (hn : fn.ntmps = n) (ha : args.size ≤ n)
    (h : ∀ a, St n a → (∀ (i : Nat) (v : Value), args[i]? = some v → a.eval (.tmp i) = v) → c.wp P (bodyPost P fn R) a w) : Calls P f args w R := by
  subst hn
  refine calls_of_wp hf hb (h _ ⟨by simp; omega, rfl⟩ (fun i v hv => ?_))
  have hlt : i < args.size := (Array.getElem?_eq_some_iff.1 hv).1
  simp only [Act.eval, Array.getD_eq_getD_getElem?, Array.getElem?_append_left hlt, hv, Option.getD_some]
/-- What a function hands back. -/
def ResIs (P : Program) (a : Act) (w : World) : ResultVar → Value → Prop
  | .tmp t, v => a.eval (.tmp t) = v
  | .cell p T, v => ∃ q cs T' f n, a.eval (.tmp p) = .pointer (some ⟨q, 0, none⟩) ∧ w.heap[q]? = some (.cells cs T' f) ∧ (∀ w, (isAgg T).run P w = .ok true w) ∧ (∀ w, (Go.sizeOf T).run P w = .ok n w) ∧ cs.size = n ∧ v = .agg cs
theorem res_run {r : ResultVar} {v : Value} (h : ResIs P a w r v) : (match r with | .tmp t => (pure (a.tmps.getD t undef) : Sem Value) | .cell p t => do loadVar t (← asAddr (a.tmps.getD p undef))).run P w = .ok v w := by
  cases r with
  | tmp t =>
    have h' : a.tmps.getD t undef = v := h
    simp only [h', Sem.run_pure]
  | cell p T =>
    obtain ⟨q, cs, T', f, n, h1, h2, h3, h4, h5, rfl⟩ := h
    have h1' : a.tmps.getD p undef = .pointer (some ⟨q, 0, none⟩) := h1
    have hl := run_loadCells_list (P := P) w ⟨q, 0, none⟩ cs.toList (fun j v hv => by rw [Addr.add_lit, Nat.zero_add]; exact box_cell h2 (by simpa using hv))
    simp only [Array.length_toList, Array.toArray_toList] at hl
    subst h5
    simp only [h1', asAddr, loadVar, Sem.run_bind, Sem.run_pure, Result.andThen_ok, h3, h4, hl, if_true]
theorem res_cell {p : Tmp} {T T' : TypeId} {q n : Nat} {cs : Array Value} {f : Nat × Nat} (h1 : a.eval (.tmp p) = .pointer (some ⟨q, 0, none⟩)) (h2 : w.heap[q]? = some (.cells cs T' f)) (h3 : ∀ w, (isAgg T).run P w = .ok true w) (h4 : ∀ w, (Go.sizeOf T).run P w = .ok n w) (h5 : cs.size = n) : ResIs P a w (.cell p T) (.agg cs) :=
  ⟨q, cs, T', f, n, h1, h2, h3, h4, h5, rfl⟩
theorem res_tmp {t : Tmp} {v : Value} (h : a.eval (.tmp t) = v) : ResIs P a w (.tmp t) v := h
theorem ret1 {n : Nat} {fn : Func} {R : Ending → World → Prop} {r : ResultVar} {v : Value} (hs : St n a) (hr : fn.results = #[r]) (h : ResIs P a w r v) (hR : R (.returned v) w) : bodyPost P fn R .ret a w := by
  refine bodyPost_ret (v := v) ?_ hs.nodef hR
  have := res_run h
  unfold results
  rw [hr]
  cases r with
  | tmp t => simp only [Sem.run_pure, Result.ok.injEq, and_true] at this; simp [this, -Array.getD_eq_getD_getElem?]
  | cell p T =>
    obtain ⟨q, cs, T', f, m, h1, h2, h3, h4, h5, rfl⟩ := h
    have h1' : a.tmps.getD p undef = .pointer (some ⟨q, 0, none⟩) := h1
    simp only [h1', asAddr, Sem.run_bind, Sem.run_pure, Result.andThen_ok] at this
    simp only [Array.mapM_eq_mapM_toList, List.mapM_cons, List.mapM_nil]
    simp [h1', asAddr, this, -Array.getD_eq_getD_getElem?]
theorem ret2 {n : Nat} {fn : Func} {R : Ending → World → Prop} {r r' : ResultVar} {v v' : Value} (hs : St n a) (hr : fn.results = #[r, r']) (h : ResIs P a w r v) (h' : ResIs P a w r' v') (hR : R (.returned (.tuple #[v, v'])) w) : bodyPost P fn R .ret a w := by
  refine bodyPost_ret (v := .tuple #[v, v']) ?_ hs.nodef hR
  have e1 := res_run h
  have e2 := res_run h'
  unfold results
  rw [hr]
  cases r with
  | tmp t =>
    simp only [Sem.run_pure, Result.ok.injEq, and_true] at e1
    cases r' with
    | tmp t' => simp only [Sem.run_pure, Result.ok.injEq, and_true] at e2; simp [e1, e2, -Array.getD_eq_getD_getElem?]
    | cell p T =>
      obtain ⟨q, cs, T', f, m, h1, h2, h3, h4, h5, rfl⟩ := h'
      have h1' : a.tmps.getD p undef = .pointer (some ⟨q, 0, none⟩) := h1
      simp only [h1', asAddr, Sem.run_bind, Sem.run_pure, Result.andThen_ok] at e2
      simp [h1', asAddr, e1, e2, -Array.getD_eq_getD_getElem?]
  | cell p T =>
    obtain ⟨q, cs, T', f, m, h1, h2, h3, h4, h5, rfl⟩ := h
    have h1' : a.tmps.getD p undef = .pointer (some ⟨q, 0, none⟩) := h1
    simp only [h1', asAddr, Sem.run_bind, Sem.run_pure, Result.andThen_ok] at e1
    cases r' with
    | tmp t' => simp only [Sem.run_pure, Result.ok.injEq, and_true] at e2; simp [h1', asAddr, e1, e2, -Array.getD_eq_getD_getElem?]
    | cell p' T2 =>
      obtain ⟨q, cs, T', f, m, h1, h2, h3, h4, h5, rfl⟩ := h'
      have h2' : a.tmps.getD p' undef = .pointer (some ⟨q, 0, none⟩) := h1
      simp only [h2', asAddr, Sem.run_bind, Sem.run_pure, Result.andThen_ok] at e2
      simp [h1', h2', asAddr, e1, e2, -Array.getD_eq_getD_getElem?]
end
end Go.Proofs.Ytpnejmlbfadaaaa
