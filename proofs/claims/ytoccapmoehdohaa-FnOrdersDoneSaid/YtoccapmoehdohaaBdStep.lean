/- Steps for the walks of boards: new rows of numbers, an element that is written, pointers that are no nil. No condition. -/
import Derived.Test.YtoccapmoehdohaaBdBun
import Derived.Test.YtoccapmoehdohaaBdCopy
import Derived.Test.YtoccapmoehdohaaBdOk
import Derived.Test.YtoccapmoehdohaaFlowNum
import Derived.Test.YtoccapmoehdohaaFlowDel
namespace Go.Proofs.Ytoccapmoehdohaa
open Go.RowKit _root_.Go.Proofs.Try
theorem rdN (w : World) (size : Nat) : Rd w size none 0 []:=Rd.of_own (World.ownsRow_nil w 0 3 size)
theorem Bi {a n m : Nat} (h : a = n) (h2 : n ≤ m) : a ≤ m:=by omega
theorem Du {P : Program} {o : Oper} {ρ : Operand → Value} {w : World} {K : Value → World → Prop} {x : Operand} {a : Addr} (ho : o.op = .nilCheck x) (hx : ρ x = .pointer (some a)) (h : K (.pointer (some a)) w) : Bm P o ρ w K:=by
 unfold Bm execOp;simp only [ho,hx]
 go_simp
 exact h
theorem repl_I : ∀ N : Nat,List.replicate N (Value.int IntKind.i64 0) = (List.replicate N (0 : Int)).flatMap cI
 | 0=>rfl
 | N + 1=>by rw [List.replicate_succ,List.replicate_succ,List.flatMap_cons,← repl_I N]; rfl
theorem g_makeI {P : Program} {o : Oper} {ρ : Operand → Value} {w : World} {K : Value → World → Prop} {x y : Operand} {T e : TypeId} {n : Int} {N : Nat} (base : Nat) {bytes : Nat} (ho : o.op = .makeSlice T x y) (hx : ρ x = .int .i64 n) (hy : ρ y = .int .i64 n) (hn : n = (N : Int)) (ht : P.underlying T = some (.slice e)) (hi : (P.info? e).map (fun i=>(i.zero,i.size,i.bytes)) = some (some (.int .i64 0),1,bytes)) (hbytes : bytes * N ≤ 281474976710656) (h63 : N ≤ maxLen) (hbase : base ≤ w.heap.size)
  (h : ∀ q w',w'.ownsRow base e 1 (.slice (some ⟨q,0,none⟩) N N) N ((List.replicate N (0 : Int)).flatMap cI) → Below w.heap.size w w' → K (.slice (some ⟨q,0,none⟩) N N) w') : Bm P o ρ w K:=by
 subst hn;cases hi0 : P.info? e with
 | none=>rw [hi0] at hi; cases hi
 | some i =>
  rw [hi0] at hi;simp only [Option.map_some,Option.some.injEq,Prod.mk.injEq] at hi;obtain ⟨h1,h2,h3⟩:=hi;subst h3;obtain ⟨w',hr,ho',hg⟩:=run_make_full w base T e i (.int .i64 0) 1 ht hi0 h1 h2 .i64 .i64 N hbytes h63 hbase;unfold Bm execOp;simp only [ho,hx,hy,Sem.run_bind,hr,Sem.run_pure,Result.andThen_ok];rw [Nat.mul_one,show (Value.int IntKind.i64 0).cells = #[.int .i64 0] from rfl,toList_madeCells_one] at ho';rw [repl_I] at ho';exact h _ _ ho' ((Below.refl _ w).grown hg (Nat.le_refl _) (fun k e=>by cases e))
theorem flatI_set : ∀ (xs : List Int) (k : Nat) (v : Int),(xs.flatMap cI).set k (.int .i64 v) = (xs.set k v).flatMap cI
 | [],_,_=>rfl
 | x :: xs,0,v=>rfl
 | x :: xs,k + 1,v=>by
  show (Value.int .i64 x :: xs.flatMap cI).set (k + 1) _ = Value.int .i64 x :: (xs.set k v).flatMap cI;rw [List.set_cons_succ,flatI_set xs k v]
theorem g_storeI {P : Program} {o : Oper} {ρ : Operand → Value} {w : World} {K : Value → World → Prop} {x y : Operand} {T e : TypeId} {base b f n c k : Nat} {A : Option Addr} {xs : List Int} {v : Int} (ho : o.op = .store T x y) (hx : ρ x = .pointer (some ⟨b,f + k * 1,none⟩)) (hy : ρ y = .int .i64 v) (hs : ∀ w,(Go.sizeOf T).run P w = .ok 1 w) (hA : A = some ⟨b,f,none⟩)
  (hown : w.ownsRow base e 1 (.slice A n c) n (xs.flatMap cI)) (hk : k < xs.length) (h : ∀ w',w'.ownsRow base e 1 (.slice A n c) n ((xs.set k v).flatMap cI) → w.grownBy w' (A.map (·.block)) → K undef w') : Bm P o ρ w K:=by
 have hn : xs.length = n:=Bl hown;obtain ⟨g,hg⟩:=own_some hown (by omega);rw [hg] at hA;cases hA;subst hg;have hl : (xs.flatMap cI).length = xs.length:=by rw [Bt cI 1 cI_len]; omega
 have hc:=(hown.cellAt k (by omega)).trans (List.getElem?_eq_getElem (by omega));have hf:=hown.frozenAt k;have hst : (store ((⟨b,k,none⟩ : Addr).add 0) (.int .i64 v)).run P w = .ok () (w.setCell ⟨b,k,none⟩ (.int .i64 v)):=by
  rw [Addr.add_lit,Nat.add_zero,run_store P w _ _ _ rfl,hc];simp [hf]
 have hrun : (storeVar T ⟨b,k,none⟩ (.int .i64 v)).run P w = .ok () (w.setCell ⟨b,k,none⟩ (.int .i64 v)):=by
  simp only [storeVar,show (Value.int IntKind.i64 v).cells = #[.int .i64 v] from rfl,Sem.run_bind,hs,Result.andThen_ok,storeCells,List.size_toArray,List.length_cons,List.length_nil,Nat.zero_add,ne_eq,not_true_eq_false,if_false,hst]
  rfl
 obtain ⟨h1,h2⟩:=hown.stored k (.int .i64 v);rw [flatI_set] at h1;unfold Bm execOp;rw [Nat.zero_add,Nat.mul_one] at hx;simp only [ho,hx,hy,Instr.storeAt,Instr.sureAddr,Sem.run_bind,Sem.run_pure,Result.andThen_ok,hrun];exact h _ h1 h2
end Go.Proofs.Ytoccapmoehdohaa
