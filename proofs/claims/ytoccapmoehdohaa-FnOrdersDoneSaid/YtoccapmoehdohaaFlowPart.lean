/- Walks by letters: a struct that is stored into a part of a block. No condition. -/
import Derived.Test.YtoccapmoehdohaaFlow
import Derived.Laws.CopyRow
namespace Go.Proofs.Ytoccapmoehdohaa
open Go.RowKit _root_.Go.Proofs.Try
theorem g_storeP {P : Program} {o : Oper} {ρ : Operand → Value} {w : World} {K : Value → World → Prop} {x y : Operand} {T T' : TypeId} {q j n : Nat} {cs old new : Array Value} (ho : o.op = .store T x y) (hx : ρ x = .pointer (some ⟨q,j,none⟩)) (hy : ρ y = .agg cs) (hs : ∀ w,(Go.sizeOf T).run P w = .ok n w) (hn : cs.size = n) (h1 : cs.toList.all (·.oneCell') = true)
  (hg : w.heap[q]? = some (.cells old T' (0,0))) (hj : j + n ≤ old.size) (hr : (old.toList.take j ++ cs.toList ++ old.toList.drop (j + cs.toList.length)).toArray = new) (h : ∀ w',Wrote w w' q new T' → K undef w') : Bm P o ρ w K:=by
 have hrun : (storeVar T ⟨q,j,none⟩ (.agg cs)).run P w = .ok () (w.setRow q new):=by
  subst hn hr;have:=run_storeCells_at (P:=P) q j T' cs.toList 0 old w hg (by simp; omega) (fun v hv=>List.all_eq_true.1 h1 v hv);simp only [Nat.add_zero] at this;simp [storeVar,hs,Value.cells,this]
 unfold Bm execOp;simp only [ho,hx,hy,Instr.storeAt,Instr.sureAddr,Sem.run_bind,Sem.run_pure,Result.andThen_ok,hrun];exact h _ (wrote_row hg)
end Go.Proofs.Ytoccapmoehdohaa
