/- Walks by letters: a byte of a text, parts of a text, texts held one against the other, bytes as numbers. No condition. -/
import Derived.Test.YtpnejmlbfadaaaaFlowHead
namespace Go.Proofs.Ytpnejmlbfadaaaa
open Go.RowKit
section
variable {P : Program} {o : Oper} {ρ : Operand → Value} {w : World} {K : Value → World → Prop}
theorem g_indexS {x y : Operand} {T : TypeId} {l : List UInt8} {i : Int} {k : Nat} (ho : o.op = .index T x y) (hx : ρ x = .string ⟨l.toArray⟩) (hy : ρ y = .int .i64 i) (hi : i = (k : Int)) (ht : P.underlying T = some .string) (hk : k < l.length) (h : K (.int .u8 (nth l (k : Int))) w) : goesR P o ρ w K := by
  subst hi
  have es : (ByteArray.mk l.toArray).size = l.length := by simp [ByteArray.size]
  have h1 : (0 : Int) ≤ (k : Int) := by omega
  have h2 : (k : Int) < (l.length : Int) := by omega
  unfold goesR execOp
  simp only [ho]
  go_simp
  exact h
theorem g_tailS {x y : Operand} {T : TypeId} {l : List UInt8} {i : Int} {k : Nat} (ho : o.op = .slice T x (some y) none none) (hx : ρ x = .string ⟨l.toArray⟩) (hy : ρ y = .int .i64 i) (hi : i = (k : Int)) (ht : P.underlying T = some .string) (hk : k ≤ l.length) (h : K (.string ⟨(l.drop k).toArray⟩) w) : goesR P o ρ w K := by
  subst hi
  have es : (ByteArray.mk l.toArray).size = l.length := by simp [ByteArray.size]
  have h1 : (0 : Int) ≤ (k : Int) := by omega
  have h2 : (k : Int) ≤ (l.length : Int) := by omega
  have e : (l.drop k).take (l.length - k) = l.drop k := List.take_of_length_le (by rw [List.length_drop]; omega)
  unfold goesR execOp
  simp only [ho]
  go_simp
  simpa [e] using h
theorem g_midS {x y z : Operand} {T : TypeId} {l : List UInt8} {i j : Int} {k m : Nat} (ho : o.op = .slice T x (some y) (some z) none) (hx : ρ x = .string ⟨l.toArray⟩) (hy : ρ y = .int .i64 i) (hz : ρ z = .int .i64 j) (hi : i = (k : Int)) (hj : j = (m : Int)) (ht : P.underlying T = some .string) (hk : k ≤ m) (hm : m ≤ l.length) (h : K (.string ⟨((l.drop k).take (m - k)).toArray⟩) w) : goesR P o ρ w K := by
  subst hi hj
  have es : (ByteArray.mk l.toArray).size = l.length := by simp [ByteArray.size]
  have h1 : (0 : Int) ≤ (k : Int) := by omega
  have h2 : (k : Int) ≤ (m : Int) := by omega
  have h3 : (m : Int) ≤ (l.length : Int) := by omega
  unfold goesR execOp
  simp only [ho]
  go_simp
  simpa using h
theorem g_eqlS {x y : Operand} {T T' : TypeId} {l m : List UInt8} (ho : o.op = .binOp .eql T x y T') (hx : ρ x = .string ⟨l.toArray⟩) (hy : ρ y = .string ⟨m.toArray⟩) (h : K (.bool (decide (l = m))) w) : goesR P o ρ w K := by
  unfold goesR execOp
  simp only [ho]
  go_simp
  have e : decide (l = m) = (l == m) := by by_cases hlm : l = m <;> simp [hlm]
  rw [e] at h
  simpa using h
theorem g_gtrB {x y : Operand} {T T' : TypeId} {m n : Int} (ho : o.op = .binOp .gtr T x y T') (hx : ρ x = .int .u8 m) (hy : ρ y = .int .u8 n) (h : K (.bool (decide (n < m))) w) : goesR P o ρ w K := by
  unfold goesR execOp
  simp only [ho]
  go_simp
  exact h
theorem g_convB {x : Operand} {S T : TypeId} {l : List UInt8} {i : Int} (ho : o.op = .convert S T x) (hs : P.underlying S = some (.int .u8)) (ht : P.underlying T = some (.int .i64)) (hx : ρ x = .int .u8 (nth l i)) (h : K (.int .i64 (nth l i)) w) : goesR P o ρ w K := by
  unfold goesR execOp
  simp only [ho]
  go_simp
  exact h
end
def lenSt (w : World) (q j : Nat) : Nat := match w.cell? ⟨q, j, none⟩ with | some (.string s) => s.size | _ => 0
theorem lenSt_of {w : World} {q j : Nat} {cs : Array Value} {T : TypeId} {f : Nat × Nat} {l : List UInt8} (h : w.heap[q]? = some (.cells cs T f)) (hj : cs[j]? = some (.string ⟨l.toArray⟩)) : lenSt w q j = l.length := by
  unfold lenSt
  rw [box_cell h hj]
  simp [ByteArray.size]
def boolN (v : Value) : Nat := match v with | .bool true => 1 | _ => 0
theorem arrB0 {ρ : Operand → Value} : (#[] : Array (Nat × Operand)).map (fun (i, x) => (i, ρ x)) = #[] := by simp
theorem arrB5 {ρ : Operand → Value} {i j k m p : Nat} {x y z s q : Operand} {u v t r o : Value} (hx : ρ x = u) (hy : ρ y = v) (hz : ρ z = t) (hs : ρ s = r) (hq : ρ q = o) : (#[(i, x), (j, y), (k, z), (m, s), (p, q)] : Array (Nat × Operand)).map (fun (i, x) => (i, ρ x)) = #[(i, u), (j, v), (k, t), (m, r), (p, o)] := by subst hx hy hz hs hq; simp
theorem arrB4 {ρ : Operand → Value} {i j k m : Nat} {x y z s : Operand} {u v t r : Value} (hx : ρ x = u) (hy : ρ y = v) (hz : ρ z = t) (hs : ρ s = r) : (#[(i, x), (j, y), (k, z), (m, s)] : Array (Nat × Operand)).map (fun (i, x) => (i, ρ x)) = #[(i, u), (j, v), (k, t), (m, r)] := by subst hx hy hz hs; simp
theorem ret3 {P : Program} {a : Act} {w : World} {n : Nat} {fn : Func} {R : Ending → World → Prop} {r r' r'' : ResultVar} {v v' v'' : Value} (hs : St n a) (hr : fn.results = #[r, r', r'']) (h : ResIs P a w r v) (h' : ResIs P a w r' v') (h'' : ResIs P a w r'' v'') (hR : R (.returned (.tuple #[v, v', v''])) w) : bodyPost P fn R .ret a w := by
  refine bodyPost_ret (v := .tuple #[v, v', v'']) ?_ hs.nodef hR
  have e1 := res_run h
  have e2 := res_run h'
  have e3 := res_run h''
  have key : ∀ f : ResultVar → Sem Value, (f r).run P w = .ok v w → (f r').run P w = .ok v' w → (f r'').run P w = .ok v'' w → (do let vs ← (#[r, r', r''] : Array ResultVar).mapM f; pure (if h : vs.size = 1 then vs[0] else Value.tuple vs)).run P w = .ok (.tuple #[v, v', v'']) w := fun f h1 h2 h3 => by
    simp [Array.mapM_eq_mapM_toList, List.mapM_cons, List.mapM_nil, h1, h2, h3]
  unfold results
  rw [hr]
  exact key (fun r => match r with | .tmp t => pure (a.tmps.getD t undef) | .cell p t => do loadVar t (← asAddr (a.tmps.getD p undef))) e1 e2 e3
end Go.Proofs.Ytpnejmlbfadaaaa
