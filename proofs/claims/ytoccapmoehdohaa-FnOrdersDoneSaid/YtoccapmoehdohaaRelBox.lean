/- Behind a drawn region that lays a new variable and stores into it; what the region's operations hand back, each by itself. No condition. -/
import Derived.Test.YtoccapmoehdohaaRel
import Derived.Test.YtoccapmoehdohaaAppend
import Derived.Laws.Tables
namespace Go.Proofs.Ytoccapmoehdohaa
open Go.RowKit
def NewBox (B : Nat) (T : TypeId) (k : Nat) (v : Value) (w : World) : Prop:=∃ q old,v = .pointer (some ⟨q,0,none⟩) ∧ B ≤ q ∧ q < w.heap.size ∧ w.heap[q]? = some (.cells old T (0,0)) ∧ old.size = k
theorem NewBox.stab {B : Nat} {T : TypeId} {k : Nat} {v : Value} {w w' : World} (hb : Below w.heap.size w w') (h : NewBox B T k v w) : NewBox B T k v w':=by
 obtain ⟨q,old,h1,h2,h3,h4,h5⟩:=h;exact ⟨q,old,h1,h2,Nat.lt_of_lt_of_le h3 hb.size,(hb.block q h3).trans h4,h5⟩
theorem NewBox.new {B : Nat} {w : World} {T : TypeId} {old : Array Value} {k : Nat} (hB : B ≤ w.heap.size) (hk : old.size = k) : NewBox B T k (.pointer (some ⟨w.heap.size,0,none⟩)) (w.alloc (.cells old T)) :=
 ⟨_,old,rfl,hB,by simp,by show (w.heap.push _)[w.heap.size]? = _; simp,hk⟩
theorem setRow_size (w : World) (q : Nat) (cs : Array Value) : (w.setRow q cs).heap.size = w.heap.size:=by simp [World.setRow]
theorem setRow_grown (w : World) (q : Nat) (cs : Array Value) : w.grownBy (w.setRow q cs) (some q) :=
 ⟨rfl,rfl,rfl,by rw [setRow_size]; exact Nat.le_refl _,fun i hi hne=>by
  simp only [World.setRow,Array.getElem?_modify];rw [if_neg (fun e=>by first | exact hne (by rw [e]) | exact hne (by rw [← e]))]⟩
def Bm (P : Program) (o : Oper) (ρ : Operand → Value) (w : World) (K : Value → World → Prop) : Prop :=
 match (execOp ρ o).run P w with
 | .ok (.value v) w'=>K v w'
 | .ok .skip w'=>K undef w'
 | .ok (.enter f args) w'=>Calls P f args w' (fun e w''=>∃ v,e = .returned v ∧ K v w'')
 | _=>False
attribute [go_sem] Bm
structure Reads (l : List Oper) (a0 : Act) (x : Nat → Value) (ρ : Operand → Value) : Prop where
 out : ∀ (j t : Nat),(l[j]?).bind (·.dst) = some t → t < a0.tmps.size → ρ (.tmp t) = x j
 inn : ∀ t : Nat,(l.all fun o=>o.dst != some t) = true → ρ (.tmp t) = a0.tmps.getD t undef
 cst : ∀ v,ρ (.const v) = v
 fn : ∀ f,ρ (.func f) = .func (.func f) #[] #[]
section
variable {P : Program} {l : List Oper} {late : List Nat} {s : Nat} {a0 : Act} {R : Nat → Value → World → Prop} {W : World}
end
end Go.Proofs.Ytoccapmoehdohaa
