/- The steps of a walk in letters, on: what slices.Delete does to a row of the call's own. No condition. -/
import Derived.Test.YtoccapmoehdohaaFlowMem
namespace Go.Proofs.Ytoccapmoehdohaa
open Go.RowKit _root_.Go.Proofs.Try
theorem Er {w w' : World} {row : Option Nat} (hb : Below w.heap.size w w') : w.grownBy w' row:=⟨hb.os,hb.tape,hb.output,hb.size,fun k hk _=>hb.block k hk⟩
theorem own_some {w : World} {base : Nat} {e : TypeId} {size n c : Nat} {A : Option Addr} {xs : List Value} (h : w.ownsRow base e size (.slice A n c) n xs) (hn : 0 < n) : ∃ g,A = some ⟨g,0,none⟩:=by
 rcases h.2 with ⟨h1,_⟩ | ⟨g,cap,cur,hv,_⟩
 ·simp only [Value.slice.injEq] at h1;omega
 ·simp only [Value.slice.injEq] at hv;exact ⟨g,hv.1⟩
theorem own_block {w : World} {base : Nat} {e : TypeId} {size n c g : Nat} {xs : List Value} (h : w.ownsRow base e size (.slice (some ⟨g,0,none⟩) n c) n xs) : ∃ cur,base ≤ g ∧ w.heap[g]? = some (.cells cur e (0,0)) ∧ n ≤ c ∧ c ≤ maxLen ∧ cur.size = c * size ∧ cur.toList.take (n * size) = xs:=by
 rcases h.2 with ⟨h1,_⟩ | ⟨g',cap,cur,hv,hb,hh,h3,h4,h5,h6⟩
 ·simp at h1
 ·simp only [Value.slice.injEq,Option.some.injEq,Addr.mk.injEq,and_true,true_and] at hv;obtain ⟨rfl,rfl⟩:=hv;exact ⟨cur,hb,hh,h3,h4,h5,h6⟩
theorem own_of_block {w : World} {base : Nat} {e : TypeId} {size n c g : Nat} {xs : List Value} {cur : Array Value} (hb : base ≤ g) (hh : w.heap[g]? = some (.cells cur e (0,0))) (h3 : n ≤ c) (h4 : c ≤ maxLen) (h5 : cur.size = c * size) (h6 : cur.toList.take (n * size) = xs) :
  w.ownsRow base e size (.slice (some ⟨g,0,none⟩) n c) n xs:=by
 refine ⟨?_,.inr ⟨g,c,cur,rfl,hb,hh,h3,h4,h5,h6⟩⟩;rw [← h6,List.length_take,Array.length_toList,h5];exact Nat.min_eq_left (Nat.mul_le_mul_right _ h3)
theorem run_append_shift {P : Program} {α : Type} (f : α → List Value) (w : World) (base : Nat) (t ty e : TypeId) (z : Value) (size bytes : Nat) (ht : P.underlying t = some (.slice e)) (hi : (P.info? e).map (fun i=>(i.zero,i.size,i.bytes)) = some (some z,size,bytes)) (hf : ∀ r,(f r).length = size) (h1 : ∀ r,∀ u ∈ f r,u.oneCell' = true)
  (g n c k c2 : Nat) (zs : List α) (hn : zs.length = n) (hk : k < n) (hown : w.ownsRow base e size (.slice (some ⟨g,0,none⟩) n c) n (zs.flatMap f)) {A : Option Addr} (hA : Tail size (some ⟨g,0,none⟩) A n c (k + 1)) :
  ∃ w',(Builtin.append_ #[t,t] ty #[.slice (some ⟨g,0,none⟩) k c,.slice A (n - (k + 1)) c2]).run P w = .ok (.slice (some ⟨g,0,none⟩) (n - 1) c) w' ∧ w'.ownsRow base e size (.slice (some ⟨g,0,none⟩) (n - 1) c) (n - 1) ((zs.eraseIdx k).flatMap f) ∧ w.grownBy w' (some g):=by
 obtain ⟨i,hi1,hz,hsize,hby'⟩:=info_parts hi;obtain ⟨cur,hbg,hh,hnc,hcm,hcs,htk⟩:=own_block hown;have hrd:=hA.rd hf hn (by omega) (Rd.of_own hown);have hsome : ∃ a,A = some a:=by
  cases A with
  | none=>have:=hA.nil rfl; cases this
  | some a=>exact ⟨a,rfl⟩
 obtain ⟨a,rfl⟩:=hsome;have hlen : ((zs.drop (k + 1)).flatMap f).length = (n - (k + 1)) * size:=hrd.1;have hr:=run_append_room (P:=P) w t ty e i ht hi1 g k c cur hh a (n - (k + 1)) c2 ((zs.drop (k + 1)).flatMap f) (by rw [hsize]; exact hlen) (fun j u hj=>by
   by_cases h0 : 0 < n - (k + 1)
   ·obtain ⟨b,o',e',_,hc⟩:=hrd.2 h0;cases e';rw [Addr.add_lit];exact hc j u hj
   ·have : (zs.drop (k + 1)).flatMap f = []:=List.eq_nil_of_length_eq_zero (by rw [hlen,show n - (k + 1) = 0 from by omega,Nat.zero_mul]);rw [this] at hj;simp at hj) (fun u hu=>by
   obtain ⟨r,_,hr⟩:=List.mem_flatMap.1 hu;exact h1 r u hr) (by omega) (by
   rw [hsize,hlen,hcs,← Nat.add_mul];exact Nat.mul_le_mul_right _ (by omega))
 rw [hsize,hlen] at hr;have hkn : k + (n - (k + 1)) = n - 1:=by omega
 rw [hkn] at hr;refine ⟨_,hr,?_,setRow_grown w g _⟩;have htk2 : cur.toList.take (k * size) = (zs.take k).flatMap f:=by
  have : (cur.toList.take (n * size)).take (k * size) = (zs.flatMap f).take (k * size):=by rw [htk]
  rw [List.take_take,Nat.min_eq_left (Nat.mul_le_mul_right _ (by omega : k ≤ n))] at this;rw [this];have h2 : zs.flatMap f = (zs.take k).flatMap f ++ (zs.drop k).flatMap f:=by rw [← List.flatMap_append,List.take_append_drop]
  rw [h2,List.take_left' (by rw [Bt f size hf,List.length_take,Nat.min_eq_left (by omega)])]
 refine own_of_block hbg (setRow_heap w g cur _ e _ hh) (by omega) hcm ?_ ?_
 ·simp only [List.size_toArray,List.length_append,List.length_take,List.length_drop,Array.length_toList,hlen,hcs];have e1 : k * size ≤ c * size:=Nat.mul_le_mul_right _ (by omega);have e2 : k * size + (n - (k + 1)) * size ≤ c * size:=by rw [← Nat.add_mul]; exact Nat.mul_le_mul_right _ (by omega)
  omega
 ·rw [htk2,List.eraseIdx_eq_take_drop_succ,List.flatMap_append];refine List.take_left' ?_;rw [List.length_append,hlen,Bt f size hf,List.length_take,← Nat.add_mul,Nat.min_eq_left (by omega),hkn]
section
variable {P : Program} {o : Oper} {ρ : Operand → Value} {w : World} {K : Value → World → Prop}
theorem g_append_shift {α : Type} (f : α → List Value) (base : Nat) {t e : TypeId} (z : Value) (size bytes : Nat) {x y : Operand} {g n c k c2 : Nat} (zs : List α) {A : Option Addr} (ho : o.op = .call { callee:=.builtin .append,args:=#[x,y],argTypes:=#[t,t] }) (hx : ρ x = .slice (some ⟨g,0,none⟩) k c) (hy : ρ y = .slice A (n - (k + 1)) c2)
  (ht : P.underlying t = some (.slice e)) (hi : (P.info? e).map (fun i=>(i.zero,i.size,i.bytes)) = some (some z,size,bytes)) (hf : ∀ r,(f r).length = size) (h1 : ∀ r,∀ u ∈ f r,u.oneCell' = true) (hn : zs.length = n) (hk : k < n)
  (hown : w.ownsRow base e size (.slice (some ⟨g,0,none⟩) n c) n (zs.flatMap f)) (hA : Tail size (some ⟨g,0,none⟩) A n c (k + 1))
  (h : ∀ w',w'.ownsRow base e size (.slice (some ⟨g,0,none⟩) (n - 1) c) (n - 1) ((zs.eraseIdx k).flatMap f) → w.grownBy w' (some g) → K (.slice (some ⟨g,0,none⟩) (n - 1) c) w') : Bm P o ρ w K:=by
 obtain ⟨w',hrun,h2,h3⟩:=run_append_shift (P:=P) f w base t o.type e z size bytes ht hi hf h1 g n c k c2 zs hn hk hown hA;unfold Bm execOp;simp only [ho,resolve,invoke,builtin,Sem.run_bind,Sem.run_pure,Result.andThen_ok,List.map_toArray,List.map_cons,List.map_nil,hx,hy,hrun];exact h _ h2 h3
theorem g_slice3 {T e : TypeId} {x y u v : Operand} {A : Option Addr} {n c i j m sz : Nat} (ho : o.op = .slice T x (some y) (some u) (some v)) (hx : ρ x = .slice A n c) (hy : ρ y = .int .i64 (i : Int)) (hu' : ρ u = .int .i64 (j : Int)) (hv : ρ v = .int .i64 (m : Int)) (hu : P.underlying T = some (.slice e)) (hs : ∀ w,(Go.sizeOf e).run P w = .ok sz w)
  (hij : i ≤ j) (hjm : j ≤ m) (hm : m ≤ c) (h : ∀ v,K v w) : Bm P o ρ w K:=by
 have a1 : (0 : Int) ≤ (m : Int):=by omega
 have a2 : (m : Int) ≤ (c : Int):=by omega
 have a3 : (0 : Int) ≤ (j : Int):=by omega
 have a4 : (j : Int) ≤ (m : Int):=by omega
 have a5 : (0 : Int) ≤ (i : Int):=by omega
 have a6 : (i : Int) ≤ (j : Int):=by omega
 unfold Bm execOp;simp only [ho,hx,hy,hu',hv,Instr.sliceAt,Instr.slice,Instr.sliceBounds,Instr.sliceBound,asIntOf,Sem.run_bind,Sem.run_pure,Result.andThen_ok,run_underlying hu w,hs,a1,a2,a3,a4,a5,a6,and_self,if_true,Int.toNat_natCast,Option.map_some];exact h _
theorem g_slice_behind {T e : TypeId} {x y u : Operand} {g n c j sz : Nat} (ho : o.op = .slice T x (some y) (some u) none) (hx : ρ x = .slice (some ⟨g,0,none⟩) n c) (hy : ρ y = .int .i64 (n : Int)) (hu' : ρ u = .int .i64 (j : Int)) (hu : P.underlying T = some (.slice e)) (hs : ∀ w,(Go.sizeOf e).run P w = .ok sz w)
  (hnj : n < j) (hj : j ≤ c) (h : K (.slice (some ⟨g,n * sz,none⟩) (j - n) (c - n)) w) : Bm P o ρ w K:=by
 have a3 : (0 : Int) ≤ (j : Int):=by omega
 have a4 : (j : Int) ≤ (c : Int):=by omega
 have a5 : (0 : Int) ≤ (n : Int):=by omega
 have a6 : (n : Int) ≤ (j : Int):=by omega
 have a7 : ¬ c = n:=by omega
 unfold Bm execOp;simp only [ho,hx,hy,hu',Instr.sliceAt,Instr.slice,Instr.sliceBounds,Instr.sliceBound,asIntOf,Sem.run_bind,Sem.run_pure,Result.andThen_ok,run_underlying hu w,hs,a3,a4,a5,a6,a7,and_self,if_true,if_false,Int.toNat_natCast,Option.map_some,Option.map_none,Option.isSome_none,Bool.false_eq_true,Addr.add_lit,Nat.zero_add];exact h
theorem zeroCells_one {z : Array Value} (h : z.all (·.oneCell') = true) (n : Nat) : ∀ u ∈ (Builtin.zeroCells z n).toList,u.oneCell' = true:=by
 intro u hu;simp only [Builtin.zeroCells,Array.toList_map,List.mem_map] at hu;obtain ⟨i,hi,rfl⟩:=hu;have hi' : i < n * z.size:=by simpa using hi
 have hz : 0 < z.size:=by
  rcases Nat.eq_zero_or_pos z.size with h0 | h0
  ·rw [h0] at hi'; omega
  ·exact h0
 have hlt : i % z.size < z.size:=Nat.mod_lt _ hz;rw [getElem!_pos z _ hlt];exact (Array.all_eq_true_iff_forall_mem.1 h) _ (Array.getElem_mem hlt)
theorem g_clear_behind {T e : TypeId} {x : Operand} {base g n c j c2 sz : Nat} {z : Value} {xs : List Value} (ho : o.op = .call { callee:=.builtin .clear,args:=#[x],argTypes:=#[T] }) (hx : ρ x = .slice (some ⟨g,n * sz,none⟩) (j - n) c2) (hu : P.underlying T = some (.slice e)) (hz : ∀ w,(zeroValue e).run P w = .ok z w) (hzs : z.cells.size = sz) (h1 : z.cells.toList.all (·.oneCell') = true)
  (hnj : n < j) (hj : j ≤ c) (hown : w.ownsRow base e sz (.slice (some ⟨g,0,none⟩) n c) n xs) (h : ∀ v w',w'.ownsRow base e sz (.slice (some ⟨g,0,none⟩) n c) n xs → w.grownBy w' (some g) → K v w') : Bm P o ρ w K:=by
 have h1 : z.cells.all (·.oneCell') = true:=by rw [← Array.all_toList]; exact h1
 obtain ⟨cur,hbg,hh,hnc,hcm,hcs,htk⟩:=own_block hown;have hl : (Builtin.zeroCells z.cells (j - n)).toList.length = (j - n) * sz:=by simp [size_zeroCells,hzs]
 have hfit : n * sz + 0 + (Builtin.zeroCells z.cells (j - n)).toList.length ≤ cur.size:=by
  rw [hl,hcs,Nat.add_zero,← Nat.add_mul];exact Nat.mul_le_mul_right _ (by omega)
 have hst:=run_storeCells_at P g (n * sz) e (Builtin.zeroCells z.cells (j - n)).toList 0 cur w hh hfit (zeroCells_one h1 _);simp only [Nat.add_zero] at hst;obtain ⟨m,hm⟩ : ∃ m,j - n = m + 1:=⟨j - n - 1,by omega⟩
 unfold Bm execOp;rw [hm] at hst hx hl;simp only [ho,resolve,invoke,builtin,Sem.run_bind,Sem.run_pure,Result.andThen_ok,List.map_toArray,List.map_cons,List.map_nil,hx];simp only [Builtin.clear_,List.getElem?_toArray,List.getElem?_cons_zero,Sem.run_bind,run_underlying hu w,Result.andThen_ok,hz,hst,Sem.run_pure];refine h _ _ ?_ (setRow_grown w g _);refine own_of_block hbg (setRow_heap w g cur _ e _ hh) hnc hcm ?_ ?_
 ·have e1 : n * sz + (m + 1) * sz ≤ c * sz:=by rw [← Nat.add_mul]; exact Nat.mul_le_mul_right _ (by omega)
  simp only [List.size_toArray,List.length_append,List.length_take,List.length_drop,Array.length_toList,hcs] at hl ⊢;omega
 ·have e1 : n * sz ≤ c * sz:=Nat.mul_le_mul_right _ hnc;rw [List.append_assoc,List.take_append_of_le_length (by rw [List.length_take,Array.length_toList,hcs]; omega),List.take_take,Nat.min_self];exact htk
end
end Go.Proofs.Ytoccapmoehdohaa
