/- Records held one against the other by the language's own sign. No condition. -/
import Derived.Test.YtnjopeonmenopaaFlowHead
import Derived.Test.YtnjopeonmenopaaRec
import Derived.Laws.StructEq
namespace Go.Proofs.Ytnjopeonmenopaa
open Go.RowKit
theorem eqRec (a b c : Int) (s : ByteArray) (w : World) : (Op.equalIn 10000 26 (.agg #[.int .i64 a, .int .i64 b, .int .i64 c, .string s]) (.agg #[.int .i64 a, .int .i64 b, .int .i64 c, .string s])).run Try.prog w = .ok true w := by
  have u3 := Try.underlying3
  have a3 := Try.isAgg3
  have z3 := Try.sizeOf3
  have u9 := Try.underlying9
  have a9 := Try.isAgg9
  have z9 := Try.sizeOf9
  have hS : Try.prog.underlying 26 = some (.struct (Try.prog.fieldsOf 26)) := by kernel_rfl
  have hp : Try.prog.stoodInHeld 26 = false := by kernel_rfl
  rw [show (10000 : Nat) = 9999 + 1 from rfl, run_equalIn_agg w 9999 26 _ _ hS hp]
  simp only [Program.fieldsOf, Try.underlying26]
  go_simp
theorem g_neqR {o : Oper} {ρ : Operand → Value} {w : World} {K : Value → World → Prop} {x y : Operand} {T' : TypeId} {a b c : Int} {s : ByteArray} {u : Value} (ho : o.op = .binOp .neq 26 x y T') (hx : ρ x = .agg #[.int .i64 a, .int .i64 b, .int .i64 c, .string s]) (hy : ρ y = u) (hu : u = .agg #[.int .i64 a, .int .i64 b, .int .i64 c, .string s]) (h : K (.bool false) w) : goesR Try.prog o ρ w K := by
  subst hu
  have hm : Try.prog.eqGuardType Try.prog.depth 26 = false := by kernel_rfl
  unfold goesR execOp
  simp only [ho]
  have he := fun w => eqRec a b c s w
  have hg := fun w => run_eqGuard_agg (P := Try.prog) w .neq 26 x y #[.int .i64 a, .int .i64 b, .int .i64 c, .string s] #[.int .i64 a, .int .i64 b, .int .i64 c, .string s] hm
  go_simp
  simpa [he, hg] using h
end Go.Proofs.Ytnjopeonmenopaa
