/- Walks by letters: remainders, struct values built, new rows of zero bytes, and their text. No condition. -/
import Derived.Test.YtoccapmoehdohaaFlowMem
import Derived.Test.YtoccapmoehdohaaKit
import Derived.Laws.OwnMore
namespace Go.Proofs.Ytoccapmoehdohaa
open Go.RowKit _root_.Go.Proofs.Try
section
variable {P : Program} {o : Oper} {ρ : Operand → Value} {w : World} {K : Value → World → Prop}
theorem arrB2 {i j : Nat} {x y : Operand} {u v : Value} (hx : ρ x = u) (hy : ρ y = v) : (#[(i,x),(j,y)] : Array (Nat × Operand)).map (fun (i,x)=>(i,ρ x)) = #[(i,u),(j,v)]:=by subst hx hy; simp
theorem Dq {T : TypeId} {parts : Array (Nat × Operand)} {vs : Array (Nat × Value)} {cells : Array Value} (ho : o.op = .build T parts) (hv : parts.map (fun (i,x)=>(i,ρ x)) = vs) (hb : P.built T vs.toList = some cells) (h : K (.agg cells) w) : Bj P o ρ w K:=by
 unfold Bj execOp;simp only [ho,hv,Sem.run_bind,run_build w T vs cells hb,Sem.run_pure,Result.andThen_ok];exact h
end
end Go.Proofs.Ytoccapmoehdohaa
namespace Go.Proofs.Ytoccapmoehdohaa
open Go.RowKit _root_.Go.Proofs.Try
theorem arrB1 {ρ : Operand → Value} {i : Nat} {x : Operand} {u : Value} (hx : ρ x = u) : (#[(i,x)] : Array (Nat × Operand)).map (fun (i,x)=>(i,ρ x)) = #[(i,u)]:=by subst hx; simp
theorem arrB3 {ρ : Operand → Value} {i j k : Nat} {x y z : Operand} {u v t : Value} (hx : ρ x = u) (hy : ρ y = v) (hz : ρ z = t) : (#[(i,x),(j,y),(k,z)] : Array (Nat × Operand)).map (fun (i,x)=>(i,ρ x)) = #[(i,u),(j,v),(k,t)]:=by subst hx hy hz; simp
end Go.Proofs.Ytoccapmoehdohaa
