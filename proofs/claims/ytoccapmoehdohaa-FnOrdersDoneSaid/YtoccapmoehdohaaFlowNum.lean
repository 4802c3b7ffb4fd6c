/- Walks by letters: remainders, struct values built, new rows of zero bytes, and their text. No condition. -/
import Derived.Test.YtoccapmoehdohaaFlowMem
import Derived.Test.YtoccapmoehdohaaKit
import Derived.Laws.OwnMore
namespace Go.Proofs.Ytoccapmoehdohaa
open Go.RowKit _root_.Go.Proofs.Try
section
variable {P : Program} {o : Oper} {ρ : Operand → Value} {w : World} {K : Value → World → Prop}
theorem g_rem {x y : Operand} {T T' : TypeId} {m n : Int} {N M : Nat} (ho : o.op = .binOp .rem T x y T') (hx : ρ x = .int .i64 m) (hy : ρ y = .int .i64 n) (hm : m = (N : Int)) (hn : n = (M : Int)) (h0 : 0 < M) (hM : M ≤ 9223372036854775807) (h : K (.int .i64 ((N % M : Nat) : Int)) w) : Bm P o ρ w K:=by
 subst hm hn;unfold Bm execOp;simp only [ho];have hl : N % M < M:=Nat.mod_lt _ h0;have e : (N : Int).tmod (M : Int) = ((N % M : Nat) : Int):=by rw [Int.tmod_eq_emod_of_nonneg (by omega)]; rfl
 have hw:=IntWalk.i64_in ((N % M : Nat) : Int) (by omega);have hne : ¬ ((M : Int) = 0):=by omega
 go_simp
 simp_all
theorem arrB2 {i j : Nat} {x y : Operand} {u v : Value} (hx : ρ x = u) (hy : ρ y = v) : (#[(i,x),(j,y)] : Array (Nat × Operand)).map (fun (i,x)=>(i,ρ x)) = #[(i,u),(j,v)]:=by subst hx hy; simp
theorem g_build {T : TypeId} {parts : Array (Nat × Operand)} {vs : Array (Nat × Value)} {cells : Array Value} (ho : o.op = .build T parts) (hv : parts.map (fun (i,x)=>(i,ρ x)) = vs) (hb : P.built T vs.toList = some cells) (h : K (.agg cells) w) : Bm P o ρ w K:=by
 unfold Bm execOp;simp only [ho,hv,Sem.run_bind,run_build w T vs cells hb,Sem.run_pure,Result.andThen_ok];exact h
end
end Go.Proofs.Ytoccapmoehdohaa
namespace Go.Proofs.Ytoccapmoehdohaa
open Go.RowKit _root_.Go.Proofs.Try
theorem arrB1 {ρ : Operand → Value} {i : Nat} {x : Operand} {u : Value} (hx : ρ x = u) : (#[(i,x)] : Array (Nat × Operand)).map (fun (i,x)=>(i,ρ x)) = #[(i,u)]:=by subst hx; simp
theorem arrB3 {ρ : Operand → Value} {i j k : Nat} {x y z : Operand} {u v t : Value} (hx : ρ x = u) (hy : ρ y = v) (hz : ρ z = t) : (#[(i,x),(j,y),(k,z)] : Array (Nat × Operand)).map (fun (i,x)=>(i,ρ x)) = #[(i,u),(j,v),(k,t)]:=by subst hx hy hz; simp
end Go.Proofs.Ytoccapmoehdohaa
