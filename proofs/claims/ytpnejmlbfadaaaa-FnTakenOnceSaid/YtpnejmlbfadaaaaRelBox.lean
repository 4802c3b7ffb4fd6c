/- Behind a drawn region that lays a new variable and stores into it; what the region's operations hand back, each by itself. No condition. -/
import Derived.Test.YtpnejmlbfadaaaaRel
import Derived.Test.YtpnejmlbfadaaaaAppend
import Derived.Laws.Tables
namespace Go.Proofs.Ytpnejmlbfadaaaa
open Go.RowKit

/-- A new variable's block, of type T. -/
def NewBox (B : Nat) (T : TypeId) (k : Nat) (v : Value) (w : World) : Prop := ∃ q old, v = .pointer (some ⟨q, 0, none⟩) ∧ B ≤ q ∧ q < w.heap.size ∧ w.heap[q]? = some (.cells old T (0, 0)) ∧ old.size = k
theorem NewBox.stab {B : Nat} {T : TypeId} {k : Nat} {v : Value} {w w' : World} (hb : Below w.heap.size w w') (h : NewBox B T k v w) : NewBox B T k v w' := by
  obtain ⟨q, old, h1, h2, h3, h4, h5⟩ := h
  exact ⟨q, old, h1, h2, Nat.lt_of_lt_of_le h3 hb.size, (hb.block q h3).trans h4, h5⟩
theorem NewBox.new {B : Nat} {w : World} {T : TypeId} {old : Array Value} {k : Nat} (hB : B ≤ w.heap.size) (hk : old.size = k) : NewBox B T k (.pointer (some ⟨w.heap.size, 0, none⟩)) (w.alloc (.cells old T)) :=
  ⟨_, old, rfl, hB, by simp, by show (w.heap.push _)[w.heap.size]? = _; simp, hk⟩
theorem run_store_box {P : Program} {o : Oper} {ρ : Operand → Value} {w : World} {T : TypeId} {q : Nat} {old cs : Array Value} {x y : Operand} (ho : o.op = .store T x y) (hx : ρ x = .pointer (some ⟨q, 0, none⟩)) (hy : ρ y = .agg cs)
    (hg : w.heap[q]? = some (.cells old T (0, 0))) (hi : (P.info? T).map (·.size) = some cs.size) (hold : old.size = cs.size) (h1 : cs.toList.all (·.oneCell') = true) : (execOp ρ o).run P w = .ok .skip (w.setRow q cs) := by
  have h1 : cs.all (·.oneCell') = true := by rw [← Array.all_toList]; exact h1
  unfold execOp
  simp only [ho, hx, hy, Instr.storeAt, Instr.sureAddr, Sem.run_bind, Sem.run_pure, Result.andThen_ok, run_storeVar_row w q T T old cs hg hi hold h1]
theorem setRow_size (w : World) (q : Nat) (cs : Array Value) : (w.setRow q cs).heap.size = w.heap.size := by simp [World.setRow]
theorem setRow_grown (w : World) (q : Nat) (cs : Array Value) : w.grownBy (w.setRow q cs) (some q) :=
  ⟨rfl, rfl, rfl, by rw [setRow_size]; exact Nat.le_refl _, fun i hi hne => by
    simp only [World.setRow, Array.getElem?_modify]
    rw [if_neg (fun e => by first | exact hne (by rw [e]) | exact hne (by rw [← e]))]⟩
/-- Behind the store. -/
theorem box_done {W w w1 : World} {T : TypeId} {q : Nat} {old cs : Array Value} (hB : Below W.heap.size W w) (h1 : W.heap.size ≤ q) (h2 : q < w.heap.size) (h3 : w.heap[q]? = some (.cells old T (0, 0))) (e : w1 = w.setRow q cs) :
    Below W.heap.size W w1 ∧ q < w1.heap.size ∧ (∀ (j : Nat) u, cs[j]? = some u → w1.cell? ⟨q, j, none⟩ = some u) ∧ w.grownBy w1 (some q) ∧ w.heap[q]? = some (.cells old T (0, 0)) := by
  subst e
  have hg := setRow_grown w q cs
  have hh : (w.setRow q cs).heap[q]? = some (.cells cs T (0, 0)) := setRow_heap w q old _ T _ h3
  exact ⟨hB.grown hg hB.size (fun k hk => by cases hk; exact h1), by rw [setRow_size]; exact h2, fun j u hu => (cell_of_row _ _ j cs T (0, 0) hh).trans hu, hg, h3⟩
/-- A row of another type stays owned. -/
theorem own_box {W w1 : World} {base : Nat} {e T : TypeId} {size n c : Nat} {A : Option Addr} {xs : List Value} {q : Nat} {old : Array Value} (h : W.ownsRow base e size (.slice A n c) n xs) (hg : W.grownBy w1 (some q)) (hq : W.heap[q]? = some (.cells old T (0, 0))) (hne : T ≠ e) :
    w1.ownsRow base e size (.slice A n c) n xs ∧ A.map (·.block) ≠ some q := by
  have hne' : ∀ b, A.map (·.block) = some b → (some q : Option Nat) ≠ some b := by
    intro b hb hq'
    cases hq'
    rcases h.2 with ⟨h0, _⟩ | ⟨g, cap, cur, hv, _, hh, _⟩
    · cases h0
      cases hb
    · simp only [Value.slice.injEq] at hv
      obtain ⟨rfl, _, _⟩ := hv
      simp only [Option.map_some, Option.some.injEq] at hb
      subst hb
      rw [hq] at hh
      simp only [Option.some.injEq, Obj.cells.injEq] at hh
      exact hne hh.2.1
  exact ⟨own_grown h hg hne', fun hb => hne' q hb rfl⟩

/-! ### One operation after the other, each with what it hands back -/
def goesR (P : Program) (o : Oper) (ρ : Operand → Value) (w : World) (K : Value → World → Prop) : Prop :=
  match (execOp ρ o).run P w with
  | .ok (.value v) w' => K v w'
  | .ok .skip w' => K undef w'
  | .ok (.enter f args) w' => Calls P f args w' (fun e w'' => ∃ v, e = .returned v ∧ K v w'')
  | _ => False
attribute [go_sem] goesR
/-- What an operation of a region reads: what the operations ahead of it handed back, and the frame as it was. -/
structure Reads (l : List Oper) (a0 : Act) (x : Nat → Value) (ρ : Operand → Value) : Prop where
  out : ∀ (j t : Nat), (l[j]?).bind (·.dst) = some t → t < a0.tmps.size → ρ (.tmp t) = x j
  inn : ∀ t : Nat, (l.all fun o => o.dst != some t) = true → ρ (.tmp t) = a0.tmps.getD t undef
  cst : ∀ v, ρ (.const v) = v
  fn : ∀ f, ρ (.func f) = .func (.func f) #[] #[]
theorem reads_frame {l : List Oper} {late : List Nat} {s : Nat} (F : RelFacts l late s) (a0 : Act) (x : Nat → Value) : Reads l a0 x (frameX x 0 l a0).eval := by
  refine ⟨fun j t h hs => ?_, fun t h => ?_, fun _ => rfl, fun _ => rfl⟩
  · cases ho : l[j]? with
    | none => rw [ho] at h; cases h
    | some o =>
      rw [ho] at h
      have hd : o.dst = some t := h
      have := frame_dst x l 0 a0 j o ho hd (fun i' o' hne ho' hd' => hne (F.dst i' j o' o t ho' ho hd' hd))
      rw [if_pos hs, Nat.zero_add] at this
      simp only [Act.eval, Array.getD_eq_getD_getElem?, this, Option.getD_some]
  · have := frame_none x (t := t) l 0 a0 (fun i o ho hd => by
      have h1 := List.all_eq_true.1 h o (List.mem_of_getElem? ho)
      simp [hd] at h1)
    simp only [Act.eval, Array.getD_eq_getD_getElem?, this]
section
variable {P : Program} {l : List Oper} {late : List Nat} {s : Nat} {a0 : Act} {R : Nat → Value → World → Prop} {W : World}
def StepU (P : Program) (l : List Oper) (a0 : Act) (R : Nat → Value → World → Prop) (W : World) (k : Nat) (o : Oper) : Prop :=
  ∀ (x : Nat → Value) (w' : World) (ρ : Operand → Value), Reads l a0 x ρ → Below W.heap.size W w' → (∀ j, depOn o j = true → R j (x j) w') → ∀ K : Value → World → Prop, (∀ v w'', Below w'.heap.size w' w'' → R k v w'' → K v w'') → goesR P o ρ w' K
def LateU (P : Program) (l : List Oper) (a0 : Act) (s : Nat) (R : Nat → Value → World → Prop) (W : World) (k : Nat) (o : Oper) : Prop :=
  ∀ (x : Nat → Value) (w' : World) (ρ : Operand → Value), Reads l a0 x ρ → Below W.heap.size W w' → (∀ j, depOn o j = true → j ≠ s → R j (x j) w') → ∃ v, (∀ w', (execOp ρ o).run P w' = .ok (.value v) w') ∧ R k v w'
def StepsU (P : Program) (l : List Oper) (late : List Nat) (s : Nat) (a0 : Act) (R : Nat → Value → World → Prop) (W : World) : Nat → List Oper → Prop
  | _, [] => True
  | k, o :: rest => (k ≠ s → o.guard = none ∧ (late.contains k = false → StepU P l a0 R W k o) ∧ (late.contains k = true → LateU P l a0 s R W k o)) ∧ StepsU P l late s a0 R W (k + 1) rest
theorem steps_nil {k : Nat} : StepsU P l late s a0 R W k [] := trivial
theorem steps_step {k : Nat} {o : Oper} {rest : List Oper} (hl : late.contains k = false) (hg : o.guard = none) (h : StepU P l a0 R W k o) (h2 : StepsU P l late s a0 R W (k + 1) rest) : StepsU P l late s a0 R W k (o :: rest) :=
  ⟨fun _ => ⟨hg, fun _ => h, fun h' => by rw [hl] at h'; cases h'⟩, h2⟩
theorem steps_late {k : Nat} {o : Oper} {rest : List Oper} (hl : late.contains k = true) (hg : o.guard = none) (h : LateU P l a0 s R W k o) (h2 : StepsU P l late s a0 R W (k + 1) rest) : StepsU P l late s a0 R W k (o :: rest) :=
  ⟨fun _ => ⟨hg, fun h' => (by rw [hl] at h'; cases h'), fun _ => h⟩, h2⟩
theorem steps_sto {k : Nat} {o : Oper} {rest : List Oper} (hk : k = s) (h2 : StepsU P l late s a0 R W (k + 1) rest) : StepsU P l late s a0 R W k (o :: rest) :=
  ⟨fun h => absurd hk h, h2⟩
theorem steps_at : ∀ (m : List Oper) (k i : Nat) (o : Oper), StepsU P l late s a0 R W k m → m[i]? = some o → k + i ≠ s → o.guard = none ∧ (late.contains (k + i) = false → StepU P l a0 R W (k + i) o) ∧ (late.contains (k + i) = true → LateU P l a0 s R W (k + i) o)
  | [], _, _, _, _, h, _ => by simp at h
  | o :: m, k, 0, o', h, ho, hs => by
    obtain rfl : o = o' := by simpa using ho
    exact h.1 hs
  | o :: m, k, i + 1, o', h, ho, hs => by
    have := steps_at m (k + 1) i o' h.2 (by simpa using ho) (by omega)
    rwa [show k + 1 + i = k + (i + 1) from by omega] at this

theorem wp_region_u {id : Nat} {Q : Exit → Act → World → Prop} {a : Act} {w : World} (late : List Nat) (s : Nat) (R : Nat → Value → World → Prop) (hm : P.follows .mixedOrders = true) (hB : relOk l late s = true)
    (hstab : ∀ (i : Nat) (v : Value) (w w' : World), Below w.heap.size w w' → R i v w → R i v w')
    (hsteps : StepsU P l late s a R w 0 l)
    (hsto : ∀ (o : Oper) (x : Nat → Value) (w' : World), l[s]? = some o → Below w.heap.size w w' → (∀ i, i < l.length → i ≠ s → late.contains i = false → R i (x i) w') → ∀ ρ, Reads l a x ρ → ∃ w1, (execOp ρ o).run P w' = .ok .skip w1)
    (hfin : ∀ (o : Oper) (x : Nat → Value) (w' w1 : World), l[s]? = some o → Below w.heap.size w w' → (∀ i, i < l.length → i ≠ s → R i (x i) w') → ∀ ρ, Reads l a x ρ → (execOp ρ o).run P w' = .ok .skip w1 → Q .normal (frameX x 0 l a) w1)
    (hfin0 : l.length ≤ s → ∀ (x : Nat → Value) (w' : World), Below w.heap.size w w' → (∀ i, i < l.length → R i (x i) w') → Q .normal (frameX x 0 l a) w') : (Code.region id l.toArray true).wp P Q a w := by
  refine wp_region_rel late s (fun i x w => R i (x i) w) hm hB (fun W hW hz => ?_)
  have F := relFacts hB
  have conv : ∀ {w'}, Below W.heap.size W w' → Below w.heap.size w w' := fun hb => hW.trans (hb.mono (by rw [hz]; exact Nat.le_refl _))
  refine ⟨fun i o x y w' _ h hr => ?_, fun i x w1 w2 hb hr => hstab i _ w1 w2 hb hr, fun i o x w' ho his hil hb hd => ?_, fun i o x w' ho hil hb hd => ?_, fun o x w' ho hb hr => hsto o x w' ho (conv hb) hr _ (reads_frame F a x), fun o x w' w1 ho hb hr hrun => hfin o x w' w1 ho (conv hb) hr _ (reads_frame F a x) hrun, fun hs x w' hb hr => hfin0 hs x w' (conv hb) hr⟩
  · have e := h i (Or.inl rfl)
    rw [← e]
    exact hr
  · have hst := steps_at l 0 i o hsteps ho (by omega)
    rw [Nat.zero_add] at hst
    rw [if_pos (by simp [Region.wanted, hst.1])]
    exact (hst.2.1 hil) x w' _ (reads_frame F a x) (conv hb) hd _ (fun v w'' h1 h2 => ⟨h1, by simp only [updX_self]; exact h2⟩)
  · have his : i ≠ s := fun e => by
      have := (relFacts hB).slate
      rw [← e, hil] at this
      cases this
    have hst := steps_at l 0 i o hsteps ho (by omega)
    rw [Nat.zero_add] at hst
    rw [if_pos (by simp [Region.wanted, hst.1])]
    obtain ⟨v, h1, h2⟩ := (hst.2.2 hil) x w' _ (reads_frame F a x) (conv hb) hd
    exact ⟨v, h1, by simp only [updX_self]; exact h2⟩
end
end Go.Proofs.Ytpnejmlbfadaaaa
