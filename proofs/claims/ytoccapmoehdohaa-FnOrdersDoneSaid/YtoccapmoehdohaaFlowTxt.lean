/- Walks by letters: a byte of a text, parts of a text, texts held one against the other, bytes as numbers. No condition. -/
import Derived.Test.YtoccapmoehdohaaFlowNum
namespace Go.Proofs.Ytoccapmoehdohaa
open Go.RowKit _root_.Go.Proofs.Try
section
variable {P : Program} {o : Oper} {ρ : Operand → Value} {w : World} {K : Value → World → Prop}
end
theorem arrB0 {ρ : Operand → Value} : (#[] : Array (Nat × Operand)).map (fun (i,x)=>(i,ρ x)) = #[]:=by simp
theorem arrB4 {ρ : Operand → Value} {i j k m : Nat} {x y z s : Operand} {u v t r : Value} (hx : ρ x = u) (hy : ρ y = v) (hz : ρ z = t) (hs : ρ s = r) : (#[(i,x),(j,y),(k,z),(m,s)] : Array (Nat × Operand)).map (fun (i,x)=>(i,ρ x)) = #[(i,u),(j,v),(k,t),(m,r)]:=by subst hx hy hz hs; simp
end Go.Proofs.Ytoccapmoehdohaa
