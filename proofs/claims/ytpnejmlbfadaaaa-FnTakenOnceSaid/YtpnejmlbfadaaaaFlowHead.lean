/- Walks by letters: the head of a text. No condition. -/
import Derived.Test.YtpnejmlbfadaaaaFlowNum
namespace Go.Proofs.Ytpnejmlbfadaaaa
open Go.RowKit
theorem g_headS {P : Program} {o : Oper} {ρ : Operand → Value} {w : World} {K : Value → World → Prop} {x y : Operand} {T : TypeId} {l : List UInt8} {N : Nat} (ho : o.op = .slice T x none (some y) none) (hx : ρ x = .string ⟨l.toArray⟩) (hy : ρ y = .int .i64 (N : Int)) (ht : P.underlying T = some .string) (hN : N ≤ l.length) (h : K (.string ⟨(l.take N).toArray⟩) w) : goesR P o ρ w K := by
  have es : (ByteArray.mk l.toArray).size = l.length := by simp [ByteArray.size]
  have hr := run_slice_string_h (P := P) w T ⟨l.toArray⟩ ht .i64 (N : Int) (by omega) (by rw [es]; omega)
  have e : (ByteArray.mk l.toArray).extract 0 N = ⟨(l.take N).toArray⟩ := by
    apply ByteArray.ext
    rw [ByteArray.data_extract]
    simp
  unfold goesR execOp
  simp only [ho, hx, hy, Option.map_some, Option.map_none, Instr.sliceAt, Sem.run_bind, run_underlying ht w, Result.andThen_ok, hr, Sem.run_pure, Int.toNat_natCast, e]
  exact h
theorem arrB1 {ρ : Operand → Value} {i : Nat} {x : Operand} {u : Value} (hx : ρ x = u) : (#[(i, x)] : Array (Nat × Operand)).map (fun (i, x) => (i, ρ x)) = #[(i, u)] := by subst hx; simp
theorem arrB3 {ρ : Operand → Value} {i j k : Nat} {x y z : Operand} {u v t : Value} (hx : ρ x = u) (hy : ρ y = v) (hz : ρ z = t) : (#[(i, x), (j, y), (k, z)] : Array (Nat × Operand)).map (fun (i, x) => (i, ρ x)) = #[(i, u), (j, v), (k, t)] := by subst hx hy hz; simp
end Go.Proofs.Ytpnejmlbfadaaaa
