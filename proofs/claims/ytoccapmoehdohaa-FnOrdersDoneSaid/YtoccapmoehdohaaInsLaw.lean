/- Laws for the walk of slices.Insert at rows of structs: copies, zeros appended, capacities, slices by number. No condition. -/
import Derived.Test.YtoccapmoehdohaaFlowDel
import Derived.Test.YtoccapmoehdohaaFlow
import Derived.Test.YtoccapmoehdohaaFlowTxt
import Derived.Lib.Overlaps
import Derived.Lib.AppendZerosOnto
import Derived.Laws.CopyRow
namespace Go.Proofs.Ytoccapmoehdohaa
open Go.RowKit _root_.Go.Proofs.Try
theorem run_copyZ {P : Program} (w : World) (dT sT ty elem : TypeId) (g o dLen dCap : Nat) (a : Addr) (sLen sCap : Nat) (cur : Array Value) (t : TypeId) (cs : List Value) (size : Nat)
  (hu : P.underlying dT = some (.slice elem)) (hs : (P.info? elem).map (·.size) = some size)
  (hg : w.heap[g]? = some (.cells cur t (0,0))) (hn : cs.length = Nat.min sLen dLen * size)
  (hsrc : ∀ j v,cs[j]? = some v → w.cell? (a.add j) = some v) (hfit : o + cs.length ≤ cur.size) (h1 : ∀ v ∈ cs,v.oneCell' = true) :
  (Builtin.copy_ #[dT,sT] ty #[.slice (some ⟨g,o,none⟩) dLen dCap,.slice (some a) sLen sCap]).run P w =
   .ok (goInt ((Nat.min sLen dLen : Nat) : Int)) (w.setRow g (cur.toList.take o ++ cs ++ cur.toList.drop (o + cs.length)).toArray):=by
 have hl:=run_loadCells_list (P:=P) w a cs hsrc;have hst:=run_storeCells_at (P:=P) g o t cs 0 cur w hg (by simpa using hfit) h1;cases hq : P.info? elem with
 | none=>simp [hq] at hs
 | some i =>
  have hi : i.size = size:=by simpa [hq] using hs
  simp [Builtin.copy_,run_underlying hu,Builtin.lenOf,Builtin.firstCells,sizeOf,typeInfo,hq,hi,← hn,hl,hst]
section
variable {P : Program} {o : Oper} {ρ : Operand → Value} {w : World} {K : Value → World → Prop}
theorem g_copyZ {x y : Operand} {dT sT elem t : TypeId} {g off dLen dCap sLen sCap size m : Nat} {a : Addr} {cur : Array Value} {cs : List Value} (ho : o.op = .call { callee:=.builtin .copy,args:=#[x,y],argTypes:=#[dT,sT] }) (hx : ρ x = .slice (some ⟨g,off,none⟩) dLen dCap) (hy : ρ y = .slice (some a) sLen sCap)
  (hu : P.underlying dT = some (.slice elem)) (hs : (P.info? elem).map (·.size) = some size) (hg : w.heap[g]? = some (.cells cur t (0,0))) (hm : Nat.min sLen dLen = m) (hn : cs.length = m * size)
  (hsrc : ∀ j v,cs[j]? = some v → w.cell? (a.add j) = some v) (hfit : off + cs.length ≤ cur.size) (h1 : ∀ v ∈ cs,v.oneCell' = true)
  (h : ∀ w' u,w'.heap[g]? = some (.cells (cur.toList.take off ++ cs ++ cur.toList.drop (off + cs.length)).toArray t (0,0)) → w.grownBy w' (some g) → w'.heap.size = w.heap.size → K u w') : Bm P o ρ w K:=by
 subst hm;have hr:=run_copyZ (P:=P) w dT sT o.type elem g off dLen dCap a sLen sCap cur t cs size hu hs hg hn hsrc hfit h1;unfold Bm execOp;simp only [ho,resolve,invoke,builtin,Sem.run_bind,Sem.run_pure,Result.andThen_ok,List.map_toArray,List.map_cons,List.map_nil,hx,hy,hr];exact h _ _ (setRow_heap w g cur _ t _ hg) (setRow_grown w g _) (setRow_size w g _)
theorem g_cap {x : Operand} {T e : TypeId} {A : Option Addr} {n c : Nat} (ho : o.op = .call { callee:=.builtin .cap,args:=#[x],argTypes:=#[T] }) (hu : P.underlying T = some (.slice e)) (hx : ρ x = .slice A n c) (h : K (.int .i64 c) w) : Bm P o ρ w K:=by
 unfold Bm execOp;simp only [ho,resolve,invoke,builtin,Sem.run_bind,Sem.run_pure,Result.andThen_ok,List.map_toArray,List.map_cons,List.map_nil,hx]
 go_simp
 simpa [Builtin.cap_,run_underlying hu] using h
theorem Eo {T e : TypeId} {x y : Operand} {g off n c i sz r : Nat} (ho : o.op = .slice T x (some y) none none) (hx : ρ x = .slice (some ⟨g,off,none⟩) n c) (hy : ρ y = .int .i64 (i : Int)) (hu : P.underlying T = some (.slice e)) (hs : ∀ w,(Go.sizeOf e).run P w = .ok sz w)
  (hi : i ≤ n) (hnc : n ≤ c) (hic : i < c) (hr : off + i * sz = r) (h : K (.slice (some ⟨g,r,none⟩) (n - i) (c - i)) w) : Bm P o ρ w K:=by
 subst hr;have a3 : (0 : Int) ≤ (i : Int):=by omega
 have a4 : (i : Int) ≤ (n : Int):=by omega
 have a5 : (0 : Int) ≤ (n : Int):=by omega
 have a6 : (n : Int) ≤ (c : Int):=by omega
 have a7 : ¬ c = i:=by omega
 unfold Bm execOp;simp only [ho,hx,hy,Instr.sliceAt,Instr.slice,Instr.sliceBounds,Instr.sliceBound,asIntOf,Sem.run_bind,Sem.run_pure,Result.andThen_ok,run_underlying hu w,hs,a3,a4,a5,a6,a7,and_self,if_true,if_false,Int.toNat_natCast,Option.map_some,Option.map_none,Option.isSome_none,Bool.false_eq_true,Addr.add_lit];exact h
theorem g_growZ {s x : Operand} {t tn e : TypeId} {g n c i k : Nat} {z : Value} {size bytes : Nat} {P0 : List Value} {j : Int} (ho : o.op = .call { callee:=.builtin .append,args:=#[s,x],argTypes:=#[t,tn] }) (hs : ρ s = .slice (some ⟨g,0,none⟩) i c) (hx : ρ x = .int .i64 j) (hj : j = (k : Int))
  (ht : P.underlying t = some (.slice e)) (htn : P.underlying tn = some (.int .i64)) (hi : (P.info? e).map (fun i=>(i.zero,i.size,i.bytes)) = some (some z,size,bytes)) (hzs : z.cells.size = size) (hsz : 0 < size) (hby : 0 < bytes)
  (hold : ∀ j v,P0[j]? = some v → w.cell? ⟨g,j,none⟩ = some v) (hP0 : P0.length = i * size) (hk : 0 < k) (hg : c < i + k) (hbd : (i + k) * bytes ≤ 140737488355328) (hn : i + k = n)
  (h : ∀ g2 G w' Z,w'.heap[g2]? = some (.cells (P0 ++ Z).toArray e (0,0)) → Z.length = (G - i) * size → g2 = w.heap.size → Below w.heap.size w w' → n ≤ G → G ≤ maxLen → K (.slice (some ⟨g2,0,none⟩) n G) w') : Bm P o ρ w K:=by
 subst hj hn;obtain ⟨i0,hi0,hz0,hzz,hzb⟩:=info_parts hi;have hold' : (Builtin.firstCells i0.size i (.slice (some ⟨g,0,none⟩) i c)).run P w.drew = .ok P0.toArray w.drew:=by
  rw [hzz];exact run_firstCells_some w.drew size i ⟨g,0,none⟩ i c P0 (by rw [hP0]) (fun j v hj=>by
   rw [Addr.add_lit,Nat.zero_add];exact hold j v hj)
 have hbk : k * bytes ≤ (i + k) * bytes:=Nat.mul_le_mul_right _ (by omega);have h1b : i + k ≤ (i + k) * bytes:=Nat.le_mul_of_pos_right _ hby;have hr:=Lib.run_append_grow_zeros (P:=P) w t tn o.type e i0 z .i64 .i64 ht htn hi0 hz0 (some ⟨g,0,none⟩) i c P0 hold' k hk (by rw [hzz]; exact hsz) hg (by omega) (by rw [hzb]; omega) (by rw [hzb]; exact growslice_fits hg hbd);have hG:=grownCap_ge w (i + k) c e;have hGm:=grownCap_le_maxLen w (i + k) c e (by unfold maxLen; omega);unfold Bm execOp;simp only [ho,resolve,invoke,builtin,Sem.run_bind,Sem.run_pure,Result.andThen_ok,List.map_toArray,List.map_cons,List.map_nil,hs,hx,hr];refine h _ _ _ ((Builtin.zeroCells z.cells k).toList ++ (Builtin.zeroCells z.cells (grownCap w (i + k) c e - (i + k))).toList) ?_ ?_ rfl ?_ hG hGm
 ·have e0 : (P0 ++ ((Builtin.zeroCells z.cells k).toList ++ (Builtin.zeroCells z.cells (grownCap w (i + k) c e - (i + k))).toList)).toArray = P0.toArray ++ Builtin.zeroCells z.cells k ++ Builtin.zeroCells z.cells (grownCap w (i + k) c e - (i + k)):=by simp
  rw [e0];show (w.heap.push _)[w.heap.size]? = _;simp
 ·have e1 : ∀ m,(Builtin.zeroCells z.cells m).toList.length = m * size:=fun m=>by simp [Builtin.zeroCells,hzs]
  rw [List.length_append,e1,e1,← Nat.add_mul]
  congr 1
  omega
 ·exact ((Below.refl _ w).drew).alloc (Nat.le_refl _) _
theorem g_extern {f : FuncId} {args : Array Value} {os : Array Operand} {ts : Array TypeId} {v : Value} (ho : o.op = .call { callee:=.value (.func f),args:=os,argTypes:=ts }) (hρ : ρ (.func f) = .func (.func f) #[] #[]) (ha : os.map ρ = args)
  (hf : (callFunc f args).run P w = .ok (.value v) w) (h : K v w) : Bm P o ρ w K:=by
 unfold Bm execOp;simp only [ho,resolve,hρ,ha,Deferred.ofValue,Sem.run_bind,Sem.run_pure,Result.andThen_ok,invoke,Array.append_empty,hf]
 simpa [hf] using h
end
def insL {α : Type} (os : List α) (k : Nat) (x : α) : List α:=os.take k ++ x :: os.drop k
theorem insL_len {α : Type} (os : List α) (k : Nat) (x : α) : (insL os k x).length = os.length + 1:=by
 unfold insL;simp only [List.length_append,List.length_take,List.length_cons,List.length_drop];omega
theorem ins_room {α : Type} (f : α → List Value) {size : Nat} (hf : ∀ r,(f r).length = size) {cur : List Value} {n i c : Nat} {os : List α} {x : α} (hn : os.length = n) (hi : i < n) (hc : n + 1 ≤ c) (hl : cur.length = c * size) (ht : cur.take (n * size) = os.flatMap f) {cur1 : List Value}
  (h1 : cur1 = cur.take ((i + 1) * size) ++ (os.drop i).flatMap f ++ cur.drop ((i + 1) * size + ((os.drop i).flatMap f).length)) :
  cur1.length = c * size ∧ (cur1.take (i * size) ++ f x ++ cur1.drop (i * size + (f x).length)).length = c * size ∧ (cur1.take (i * size) ++ f x ++ cur1.drop (i * size + (f x).length)).take ((n + 1) * size) = (insL os i x).flatMap f:=by
 subst hn;have hP : ((os.take i).flatMap f).length = i * size:=by rw [Bt f size hf,List.length_take,Nat.min_eq_left (by omega)]
 have hD : ((os.drop i).flatMap f).length = (os.length - i) * size:=by rw [Bt f size hf,List.length_drop]
 have hos : os.flatMap f = (os.take i).flatMap f ++ (os.drop i).flatMap f:=by rw [← List.flatMap_append,List.take_append_drop]
 have hcur : cur = ((os.take i).flatMap f ++ (os.drop i).flatMap f) ++ cur.drop (os.length * size):=by rw [← hos,← ht,List.take_append_drop]
 generalize hPP : (os.take i).flatMap f = PP at *
 generalize hDD : (os.drop i).flatMap f = DD at *
 generalize hRR : cur.drop (os.length * size) = RR at *
 have hR : RR.length = (c - os.length) * size:=by
  rw [← hRR,List.length_drop,hl,← Nat.sub_mul]
 have e1 : (os.length - i) * size = size + (os.length - i - 1) * size:=by
  rw [show os.length - i = 1 + (os.length - i - 1) from by omega,Nat.add_mul,Nat.one_mul]
  congr 2
  omega
 have e2 : (i + 1) * size = i * size + size:=by rw [Nat.add_mul,Nat.one_mul]
 have e3 : (c - os.length) * size = size + (c - os.length - 1) * size:=by
  rw [show c - os.length = 1 + (c - os.length - 1) from by omega,Nat.add_mul,Nat.one_mul]
  congr 2
  omega
 have e4 : c * size = i * size + (os.length - i) * size + (c - os.length) * size:=by rw [← Nat.add_mul,← Nat.add_mul]; congr 1; omega
 have e5 : (os.length + 1) * size = i * size + size + (os.length - i) * size:=by rw [← e2,← Nat.add_mul]; congr 1; omega
 have hfx:=hf x;have hc1 : cur1 = PP ++ (DD.take size ++ (DD ++ RR.drop size)):=by
  rw [h1,hcur,e2];have a1 : ((PP ++ DD) ++ RR).take (i * size + size) = PP ++ DD.take size:=by
   rw [List.append_assoc,← hP,List.take_length_add_append,List.take_append_of_le_length (by omega)]
  have a2 : ((PP ++ DD) ++ RR).drop (i * size + size + DD.length) = RR.drop size:=by
   rw [show i * size + size + DD.length = (PP ++ DD).length + size from by rw [List.length_append]; omega,List.drop_length_add_append]
  rw [a1,a2];simp only [List.append_assoc]
 have hts : (DD.take size).length = size:=by rw [List.length_take]; omega
 have hd : (RR.drop size).length = (c - os.length - 1) * size:=by rw [List.length_drop]; omega
 have b1 : cur1.take (i * size) = PP:=by rw [hc1,← hP,List.take_left]
 have b2 : cur1.drop (i * size + (f x).length) = DD ++ RR.drop size:=by
  rw [hc1,hfx,← hP,List.drop_length_add_append];have:=List.drop_left (l₁:=DD.take size) (l₂:=DD ++ RR.drop size);rw [hts] at this;exact this
 rw [b1,b2];refine ⟨?_,?_,?_⟩
 ·rw [hc1];simp only [List.length_append];omega
 ·simp only [List.length_append];omega
 ·unfold insL;rw [List.flatMap_append,List.flatMap_cons,hPP,hDD,← List.append_assoc,List.take_left' (by simp only [List.length_append]; omega),List.append_assoc]
theorem ins_grow {α : Type} (f : α → List Value) {size : Nat} (hf : ∀ r,(f r).length = size) {Z cur1 : List Value} {n i G : Nat} {os : List α} {x : α} (hn : os.length = n) (hi : i < n) (hG : n + 1 ≤ G) (hZ : Z.length = (G - i) * size)
  (h1 : cur1 = ((os.take i).flatMap f ++ Z).take (i * size) ++ f x ++ ((os.take i).flatMap f ++ Z).drop (i * size + (f x).length)) :
  cur1.length = G * size ∧ (cur1.take ((i + 1) * size) ++ (os.drop i).flatMap f ++ cur1.drop ((i + 1) * size + ((os.drop i).flatMap f).length)).length = G * size ∧ (cur1.take ((i + 1) * size) ++ (os.drop i).flatMap f ++ cur1.drop ((i + 1) * size + ((os.drop i).flatMap f).length)).take ((n + 1) * size) = (insL os i x).flatMap f:=by
 subst hn;have hP : ((os.take i).flatMap f).length = i * size:=by rw [Bt f size hf,List.length_take,Nat.min_eq_left (by omega)]
 have hD : ((os.drop i).flatMap f).length = (os.length - i) * size:=by rw [Bt f size hf,List.length_drop]
 generalize hPP : (os.take i).flatMap f = PP at *
 generalize hDD : (os.drop i).flatMap f = DD at *
 have hfx:=hf x;have e2 : (i + 1) * size = i * size + size:=by rw [Nat.add_mul,Nat.one_mul]
 have e3 : (G - i) * size = size + ((os.length - i) * size + (G - os.length - 1) * size):=by
  rw [← Nat.add_mul,show G - i = 1 + ((os.length - i) + (G - os.length - 1)) from by omega,Nat.add_mul,Nat.one_mul]
 have e4 : G * size = i * size + (G - i) * size:=by rw [← Nat.add_mul]; congr 1; omega
 have e5 : (os.length + 1) * size = i * size + size + (os.length - i) * size:=by rw [← e2,← Nat.add_mul]; congr 1; omega
 have hc1 : cur1 = (PP ++ f x) ++ Z.drop size:=by
  rw [h1,hfx,← hP,List.take_left,List.drop_length_add_append]
 have hl : (PP ++ f x).length = (i + 1) * size:=by rw [List.length_append]; omega
 have hz : (Z.drop size).length = (os.length - i) * size + (G - os.length - 1) * size:=by rw [List.length_drop]; omega
 have b1 : cur1.take ((i + 1) * size) = PP ++ f x:=by rw [hc1,← hl,List.take_left]
 have b2 : cur1.drop ((i + 1) * size + DD.length) = (Z.drop size).drop DD.length:=by rw [hc1,← hl,List.drop_length_add_append]
 rw [b1,b2];have hz2 : ((Z.drop size).drop DD.length).length = (G - os.length - 1) * size:=by rw [List.length_drop]; omega
 refine ⟨?_,?_,?_⟩
 ·rw [hc1,List.length_append];omega
 ·simp only [List.length_append];omega
 ·unfold insL;rw [List.flatMap_append,List.flatMap_cons,hPP,hDD,List.take_left' (by simp only [List.length_append]; omega),List.append_assoc]
end Go.Proofs.Ytoccapmoehdohaa
