/- Walks by letters: remainders, struct values built, new rows of zero bytes, and their text. No condition. -/
import Derived.Test.YtpnejmlbfadaaaaFlowStr
import Derived.Test.YtpnejmlbfadaaaaKit
import Derived.Laws.OwnMore
namespace Go.Proofs.Ytpnejmlbfadaaaa
open Go.RowKit
section
variable {P : Program} {o : Oper} {ρ : Operand → Value} {w : World} {K : Value → World → Prop}
theorem g_rem {x y : Operand} {T T' : TypeId} {m n : Int} {N M : Nat} (ho : o.op = .binOp .rem T x y T') (hx : ρ x = .int .i64 m) (hy : ρ y = .int .i64 n) (hm : m = (N : Int)) (hn : n = (M : Int)) (h0 : 0 < M) (hM : M ≤ 9223372036854775807) (h : K (.int .i64 ((N % M : Nat) : Int)) w) : goesR P o ρ w K := by
  subst hm hn
  unfold goesR execOp
  simp only [ho]
  have hl : N % M < M := Nat.mod_lt _ h0
  have e : (N : Int).tmod (M : Int) = ((N % M : Nat) : Int) := by rw [Int.tmod_eq_emod_of_nonneg (by omega)]; rfl
  have hw := IntWalk.i64_in ((N % M : Nat) : Int) (by omega)
  have hne : ¬ ((M : Int) = 0) := by omega
  go_simp
  simp_all
theorem arrB2 {i j : Nat} {x y : Operand} {u v : Value} (hx : ρ x = u) (hy : ρ y = v) : (#[(i, x), (j, y)] : Array (Nat × Operand)).map (fun (i, x) => (i, ρ x)) = #[(i, u), (j, v)] := by subst hx hy; simp
theorem g_build {T : TypeId} {parts : Array (Nat × Operand)} {vs : Array (Nat × Value)} {cells : Array Value} (ho : o.op = .build T parts) (hv : parts.map (fun (i, x) => (i, ρ x)) = vs) (hb : P.built T vs.toList = some cells) (h : K (.agg cells) w) : goesR P o ρ w K := by
  unfold goesR execOp
  simp only [ho, hv, Sem.run_bind, run_build w T vs cells hb, Sem.run_pure, Result.andThen_ok]
  exact h
theorem g_make {x y : Operand} {T e : TypeId} {n : Int} {N : Nat} (base : Nat) {bytes : Nat} (ho : o.op = .makeSlice T x y) (hx : ρ x = .int .i64 n) (hy : ρ y = .int .i64 n) (hn : n = (N : Int)) (ht : P.underlying T = some (.slice e)) (hi : (P.info? e).map (fun i => (i.zero, i.size, i.bytes)) = some (some (.int .u8 0), 1, bytes)) (hbytes : bytes * N ≤ 281474976710656) (h63 : N ≤ maxLen) (hbase : base ≤ w.heap.size)
    (h : ∀ q w', w'.ownsRow base e 1 (.slice (some ⟨q, 0, none⟩) N N) N (List.replicate N (.int .u8 0)) → Below w.heap.size w w' → K (.slice (some ⟨q, 0, none⟩) N N) w') : goesR P o ρ w K := by
  subst hn
  cases hi0 : P.info? e with
  | none => rw [hi0] at hi; cases hi
  | some i =>
    rw [hi0] at hi
    simp only [Option.map_some, Option.some.injEq, Prod.mk.injEq] at hi
    obtain ⟨h1, h2, h3⟩ := hi
    subst h3
    obtain ⟨w', hr, ho', hg⟩ := run_make_full w base T e i (.int .u8 0) 1 ht hi0 h1 h2 .i64 .i64 N hbytes h63 hbase
    unfold goesR execOp
    simp only [ho, hx, hy, Sem.run_bind, hr, Sem.run_pure, Result.andThen_ok]
    rw [Nat.mul_one, show (Value.int IntKind.u8 0).cells = #[.int .u8 0] from rfl, toList_madeCells_one] at ho'
    exact h _ _ ho' ((Below.refl _ w).grown hg (Nat.le_refl _) (fun k e => by cases e))
theorem g_convOwn {x : Operand} {S T e : TypeId} {base g n c N : Nat} {bs : List UInt8} (ho : o.op = .convert S T x) (hx : ρ x = .slice (some ⟨g, 0, none⟩) n c) (hs : P.underlying S = some (.slice e)) (he : P.underlying e = some (.int .u8)) (hd : P.underlying T = some .string) (hr : w.ownsRow base e 1 (.slice (some ⟨g, 0, none⟩) n c) n (List.replicate N (.int .u8 0))) (hb : List.replicate N 0 = bs) (h : K (.string ⟨bs.toArray⟩) w) : goesR P o ρ w K := by
  subst hb
  have hr2 := run_conv_own P w S e T hs he hd (List.replicate N 0) (by rw [List.map_replicate]; exact hr)
  unfold goesR execOp
  simp only [ho, hx, Sem.run_bind, hr2, Sem.run_pure, Result.andThen_ok]
  rw [List.map_replicate] 
  exact h
end
end Go.Proofs.Ytpnejmlbfadaaaa
