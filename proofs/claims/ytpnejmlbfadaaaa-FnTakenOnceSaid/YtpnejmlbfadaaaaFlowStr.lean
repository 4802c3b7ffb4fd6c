/- The steps of a walk in letters, on: texts. No condition. -/
import Derived.Test.YtpnejmlbfadaaaaFlowMem
namespace Go.Proofs.Ytpnejmlbfadaaaa
open Go.RowKit

section
variable {P : Program} {o : Oper} {ρ : Operand → Value} {w : World} {K : Value → World → Prop}
theorem g_concat {x y : Operand} {T T' : TypeId} {l r : List UInt8} (ho : o.op = .binOp .add T x y T') (hx : ρ x = .string ⟨l.toArray⟩) (hy : ρ y = .string ⟨r.toArray⟩) (hb : l.length + r.length ≤ 9223372036854775807) (h : K (.string ⟨(l ++ r).toArray⟩) w) : goesR P o ρ w K := by
  unfold goesR execOp
  simp only [ho]
  rw [← ByteArray.mk_append_mk] at h
  have hb' : ¬ 9223372036854775807 < l.length + r.length := by omega
  go_simp
  exact h
end
end Go.Proofs.Ytpnejmlbfadaaaa
