/- Regions that draw their order, whose operations hand back what the world settles (a row's block, a new variable's block): whatever order is drawn, each operation finds what it waits for. A store may end the region. No condition. -/
import Derived.Test.YtoccapmoehdohaaOpen
import Derived.Orders
namespace Go.Proofs.Ytoccapmoehdohaa
open Go.RowKit
def goes (P : Program) (o : Oper) (a : Act) (w : World) (K : Value → World → Prop) : Prop :=
 match (execOp a.eval o).run P w with
 | .ok (.value v) w'=>K v w'
 | .ok .skip w'=>K undef w'
 | .ok (.enter f args) w'=>Calls P f args w' (fun e w''=>∃ v,e = .returned v ∧ K v w'')
 | _=>False
theorem goes_congr {P : Program} {o : Oper} {a b : Act} {w : World} {K : Value → World → Prop} (he : execOp a.eval o = execOp b.eval o) (h : goes P o b w K) : goes P o a w K:=by
 unfold goes at *;rw [he];exact h
theorem goes_wp {P : Program} {o : Oper} {a : Act} {w : World} {K : Value → World → Prop} {K' : Act → World → Prop} {Q : Exit → Act → World → Prop} (h : goes P o a w K) (hk : ∀ v w',K v w' → K' (a.put o.dst v) w') : o.wp P a w K' Q:=by
 unfold goes at h;unfold Oper.wp
 generalize (execOp a.eval o).run P w = r at h ⊢
 cases r with
 | ok n w' =>
  cases n <;> simp only [Oper.upon] at h ⊢
  case value v=>exact hk _ _ h
  case skip=>exact hk _ _ h
  case enter f args=>exact h.mono fun e w'' ⟨v,he,hv⟩=>by subst he; exact hk _ _ hv
 | halt x w'=>exact h.elim
def Bq (o : Oper) (i : Nat) : Bool:=o.after.toList.any fun e=>Region.binds .any e && e.on == i
def updX (x : Nat → Value) (i : Nat) (v : Value) : Nat → Value:=fun j=>if j = i then v else x j
theorem Ea (x : Nat → Value) (i : Nat) (v : Value) : updX x i v i = v:=if_pos rfl
theorem Dq (x : Nat → Value) {i j : Nat} (v : Value) (h : j ≠ i) : updX x i v j = x j:=if_neg h
def Cr (x : Nat → Value) : Nat → List Oper → Act → Act
 | _,[],a=>a
 | k,o :: l,a=>Cr x (k + 1) l (a.put o.dst (x k))
theorem put_size (a : Act) (d : Option Tmp) (v : Value) : (a.put d v).tmps.size = a.tmps.size:=by cases d <;> simp [Act.put]
theorem put_defers (a : Act) (d : Option Tmp) (v : Value) : (a.put d v).defers = a.defers:=by cases d <;> rfl
theorem put_same (a : Act) (t : Tmp) (v : Value) : (a.put (some t) v).tmps[t]? = if t < a.tmps.size then some v else none:=by
 simp [Act.put,Array.getElem?_setIfInBounds]
theorem put_other (a : Act) (d : Option Tmp) (v : Value) {t : Tmp} (h : d ≠ some t) : (a.put d v).tmps[t]? = a.tmps[t]?:=by
 cases d with
 | none=>rfl
 | some d=>simp only [Act.put]; exact Array.getElem?_setIfInBounds_ne (fun e=>h (by rw [e]))
theorem Ew (x : Nat → Value) : ∀ (l : List Oper) (k : Nat) (a : Act),(Cr x k l a).tmps.size = a.tmps.size ∧ (Cr x k l a).defers = a.defers
 | [],_,_=>⟨rfl,rfl⟩
 | o :: l,k,a=>by
  have h:=Ew x l (k + 1) (a.put o.dst (x k));rw [put_size,put_defers] at h;exact h
theorem frame_none (x : Nat → Value) {t : Tmp} : ∀ (l : List Oper) (k : Nat) (a : Act),(∀ (i : Nat) (o : Oper),l[i]? = some o → o.dst ≠ some t) → (Cr x k l a).tmps[t]? = a.tmps[t]?
 | [],_,_,_=>rfl
 | o :: l,k,a,h=>by
  have h1:=frame_none x l (k + 1) (a.put o.dst (x k)) (fun i o' ho=>h (i + 1) o' (by simpa using ho));rw [put_other a _ _ (h 0 o rfl)] at h1;exact h1
theorem frame_dst (x : Nat → Value) {t : Tmp} : ∀ (l : List Oper) (k : Nat) (a : Act) (j : Nat) (o : Oper),l[j]? = some o → o.dst = some t → (∀ (i : Nat) (o' : Oper),i ≠ j → l[i]? = some o' → o'.dst ≠ some t) →
  (Cr x k l a).tmps[t]? = if t < a.tmps.size then some (x (k + j)) else none
 | [],_,_,_,_,h,_,_=>by simp at h
 | o :: l,k,a,0,o1,h,hd,hu=>by
  obtain rfl : o = o1:=by simpa using h
  have h1:=frame_none x (t:=t) l (k + 1) (a.put o.dst (x k)) (fun i o' ho=>hu (i + 1) o' (by omega) (by simpa using ho));show (Cr x (k + 1) l (a.put o.dst (x k))).tmps[t]? = _;rw [h1,hd,put_same,Nat.add_zero]
 | o :: l,k,a,j + 1,o1,h,hd,hu=>by
  have h1:=frame_dst x l (k + 1) (a.put o.dst (x k)) j o1 (by simpa using h) hd (fun i o' hi ho=>hu (i + 1) o' (by omega) (by simpa using ho));show (Cr x (k + 1) l (a.put o.dst (x k))).tmps[t]? = _;rw [h1,put_size,show k + 1 + j = k + (j + 1) from by omega]
structure RelFacts (l : List Oper) (late : List Nat) (s : Nat) : Prop where
 nosel : Region.noSelect l.toArray = true
 slate : late.contains s = false
 sdst : ∀ o,l[s]? = some o → o.dst = none ∧ o.guard = none
 lex : ∀ (i : Nat) (o : Oper),l[i]? = some o → ∀ e ∈ o.after,Region.binds .any e = true → e.on < i
 feeds : ∀ (i : Nat) (o : Oper),l[i]? = some o → i ≠ s → late.contains i = false → s < l.length → ∃ (j : Nat) (oj : Oper),l[j]? = some oj ∧ i < j ∧ Bq oj i = true ∧ (j = s ∨ late.contains j = false)
 dst : ∀ (i j : Nat) (oi oj : Oper) (t : Tmp),l[i]? = some oi → l[j]? = some oj → oi.dst = some t → oj.dst = some t → i = j
 look : ∀ (i j : Nat) (oi oj : Oper) (t : Tmp),l[i]? = some oi → l[j]? = some oj → oi.dst = some t → t ∈ oj.looksAt l.toArray → Bq oj i = true
section
variable {P : Program} {l : List Oper} {a0 : Act}
structure Agrees (l : List Oper) (a0 : Act) (x : Nat → Value) (listed : Array Bool) (a : Act) : Prop where
 defers : a.defers = a0.defers
 size : a.tmps.size = a0.tmps.size
 at_ : ∀ t,(∀ (i : Nat) (o : Oper),l[i]? = some o → o.dst = some t → listed.getD i false = true) → a.tmps[t]? = (Cr x 0 l a0).tmps[t]?
theorem Agrees.start {x : Nat → Value} {listed : Array Bool} (h : ∀ i,i < l.length → listed.getD i false = false) : Agrees l a0 x listed a0 :=
 ⟨rfl,rfl,fun t ht=>(frame_none x l 0 a0 (fun i o hi hd=>by
  have h1:=ht i o hi hd;rw [h i (List.getElem?_eq_some_iff.1 hi).1] at h1;cases h1)).symm⟩
theorem Agrees.all {x : Nat → Value} {listed : Array Bool} {a : Act} (h : Agrees l a0 x listed a) (hall : ∀ i,i < l.length → listed.getD i false = true) : a = Cr x 0 l a0:=by
 have h1 : a.tmps = (Cr x 0 l a0).tmps:=Array.ext_getElem? (fun t=>h.at_ t (fun i o hi _=>hall i (List.getElem?_eq_some_iff.1 hi).1));have h2 : a.defers = (Cr x 0 l a0).defers:=by rw [(Ew x l 0 a0).2,h.defers]
 cases a
 generalize Cr x 0 l a0 = b at h1 h2
 cases b;simp only at h1 h2;rw [h1,h2]
theorem Bp {listed : Array Bool} {i j : Nat} (hi : i < listed.size) : (listed.setIfInBounds i true).getD j false = (if j = i then true else listed.getD j false):=by
 by_cases h : j = i
 ·subst h;simp [hi]
 ·rw [if_neg h];simp [Array.getElem?_setIfInBounds_ne (fun e=>h e.symm)]
theorem Agrees.step {late : List Nat} {s : Nat} (F : RelFacts l late s) {x : Nat → Value} {listed : Array Bool} {a : Act} (h : Agrees l a0 x listed a) {i : Nat} {o : Oper} (hi : l[i]? = some o) (hlt : i < listed.size) (v : Value) :
  Agrees l a0 (updX x i v) (listed.setIfInBounds i true) (a.put o.dst v):=by
 refine ⟨by rw [put_defers,h.defers],by rw [put_size,h.size],fun t ht=>?_⟩;by_cases hd : o.dst = some t
 ·rw [hd,put_same,h.size,frame_dst (updX x i v) l 0 a0 i o hi hd (fun i' o' hne ho' hd'=>hne (F.dst i' i o' o t ho' hi hd' hd)),Nat.zero_add,Ea]
 ·rw [put_other _ _ _ hd];have h1 : a.tmps[t]? = (Cr x 0 l a0).tmps[t]?:=by
   refine h.at_ t (fun j oj hj hdj=>?_);have h2:=ht j oj hj hdj;rw [Bp hlt] at h2;by_cases hji : j = i
   ·subst hji;rw [hi] at hj;cases hj;exact absurd hdj hd
   ·rwa [if_neg hji] at h2
  rw [h1];by_cases hex : ∃ (j : Nat) (oj : Oper),l[j]? = some oj ∧ oj.dst = some t
  ·obtain ⟨j,oj,hj,hdj⟩:=hex;have hu : ∀ (i' : Nat) (o' : Oper),i' ≠ j → l[i']? = some o' → o'.dst ≠ some t:=fun i' o' hne ho' hd'=>hne (F.dst i' j o' oj t ho' hj hd' hdj)
   have hji : j ≠ i:=fun e=>by
    subst e;rw [hi] at hj;cases hj;exact hd hdj
   rw [frame_dst x l 0 a0 j oj hj hdj hu,frame_dst (updX x i v) l 0 a0 j oj hj hdj hu,Nat.zero_add,Dq x v hji]
  ·have hn : ∀ (i : Nat) (o : Oper),l[i]? = some o → o.dst ≠ some t:=fun i o hi hd=>hex ⟨i,o,hi,hd⟩
   rw [frame_none x l 0 a0 hn,frame_none (updX x i v) l 0 a0 hn]
theorem Agrees.tmp {late : List Nat} {s : Nat} (F : RelFacts l late s) {x : Nat → Value} {listed : Array Bool} {a : Act} (h : Agrees l a0 x listed a) {j : Nat} {o : Oper} (hj : l[j]? = some o) (hdep : ∀ i,Bq o i = true → listed.getD i false = true) {t : Tmp} (ht : t ∈ o.looksAt l.toArray) :
  a.tmps[t]? = (Cr x 0 l a0).tmps[t]? :=
 h.at_ t (fun i oi hi hd=>hdep i (F.look i j oi o t hi hj hd ht))
theorem Agrees.exec {late : List Nat} {s : Nat} (F : RelFacts l late s) {x : Nat → Value} {listed : Array Bool} {a : Act} (h : Agrees l a0 x listed a) {j : Nat} {o : Oper} (hj : l[j]? = some o) (hdep : ∀ i,Bq o i = true → listed.getD i false = true) :
  execOp a.eval o = execOp (Cr x 0 l a0).eval o :=
 execOp_congr o (fun cs b=>Region.noSelect_spec F.nosel j o cs b (by simpa using hj)) (fun y hy=>by
  cases y with
  | tmp t =>
   have:=h.tmp F hj hdep (t:=t) (List.mem_append_left _ (List.mem_filterMap.2 ⟨.tmp t,by simpa using hy,rfl⟩));simp only [Act.eval,Array.getD_eq_getD_getElem?,this]
  | const v=>rfl
  | global g=>rfl
  | func f=>rfl)
theorem Agrees.want {late : List Nat} {s : Nat} (F : RelFacts l late s) {x : Nat → Value} {listed : Array Bool} {a : Act} (h : Agrees l a0 x listed a) {j : Nat} {o : Oper} (hj : l[j]? = some o) (hdep : ∀ i,Bq o i = true → listed.getD i false = true) :
  Region.wanted o (yielded l.toArray a.tmps) = Region.wanted o (yielded l.toArray (Cr x 0 l a0).tmps):=by
 unfold Region.wanted;cases hg : o.guard with
 | none=>rfl
 | some gw =>
  obtain ⟨g,want⟩:=gw;have hy : yielded l.toArray a.tmps g = yielded l.toArray (Cr x 0 l a0).tmps g:=by
   unfold yielded;cases ht : (l.toArray[g]?).bind (·.dst) with
   | none=>rfl
   | some t =>
    have:=h.tmp F hj hdep (t:=t) (List.mem_append_right _ (by simp only [hg,ht]; simp));simp only [Option.bind_some,this]
  simp only [hy]
end
section
variable {P : Program} {l : List Oper} {a0 : Act}
theorem countP_lt {p q : Nat → Bool} (hpq : ∀ j,q j = true → p j = true) : ∀ (L : List Nat) (i : Nat),i ∈ L → p i = true → q i = false → L.countP q < L.countP p
 | [],i,h,_,_=>by cases h
 | k :: L,i,h,hp,hq=>by
  rw [List.countP_cons,List.countP_cons];have hle : L.countP q ≤ L.countP p:=List.countP_mono_left (fun j _=>hpq j);rcases List.mem_cons.1 h with rfl | h1
  ·rw [hp,hq];simp;omega
  ·have h2:=countP_lt hpq L i h1 hp hq;by_cases hk : q k = true
   ·rw [hk,hpq k hk];simp;exact h2
   ·rw [Bool.not_eq_true] at hk;rw [hk];simp;omega
def left (n : Nat) (listed : Array Bool) : Nat:=(List.range n).countP fun i=>!listed.getD i false
theorem Fa {n i : Nat} {listed : Array Bool} (hi : i < n) (hlt : i < listed.size) (hun : listed.getD i false = false) {fuel : Nat} (h : left n listed ≤ fuel + 1) : left n (listed.setIfInBounds i true) ≤ fuel:=by
 have:=countP_lt (p:=fun i=>!listed.getD i false) (q:=fun j=>!(listed.setIfInBounds i true).getD j false) (fun j hj=>by
  rw [Bp hlt] at hj;by_cases hji : j = i
  ·subst hji; simp at hj
  ·simpa [hji] using hj) (List.range n) i (List.mem_range.2 hi) (by simpa using hun) (by rw [Bp hlt]; simp)
 unfold left at *;omega
theorem left_zero {n : Nat} {listed : Array Bool} (h : left n listed ≤ 0) : ∀ i,i < n → listed.getD i false = true:=by
 intro i hi;unfold left at h;have h1 : (List.range n).countP (fun i=>!listed.getD i false) = 0:=by omega
 rw [List.countP_eq_zero] at h1
 simpa using h1 i (List.mem_range.2 hi)
theorem El {listed : Array Bool} (hsz : listed.size = l.length) {i : Nat} (h : i ∈ Region.ready .any l.toArray listed) :
  ∃ o,l[i]? = some o ∧ i < l.length ∧ listed.getD i false = false ∧ ∀ j,Bq o j = true → listed.getD j false = true:=by
 obtain ⟨h0,o,ho,hall⟩:=mem_ready.1 h;have ho' : l[i]? = some o:=by simpa using ho
 have hlt : i < l.length:=(List.getElem?_eq_some_iff.1 ho').1;refine ⟨o,ho',hlt,?_,fun j hj=>?_⟩
 ·have : i < listed.size:=by omega
  simpa [this] using h0
 ·obtain ⟨e,he,hb⟩:=List.any_eq_true.1 hj;simp only [Bool.and_eq_true,beq_iff_eq] at hb;have:=hall e (by simpa using he) hb.1
  rwa [hb.2] at this
def Closed (l : List Oper) (listed : Array Bool) : Prop:=∀ (j : Nat) (o : Oper),l[j]? = some o → listed.getD j false = true → ∀ i,Bq o i = true → listed.getD i false = true
theorem Closed.step {listed : Array Bool} (h : Closed l listed) {i : Nat} {o : Oper} (hi : l[i]? = some o) (hlt : i < listed.size) (hdep : ∀ j,Bq o j = true → listed.getD j false = true) : Closed l (listed.setIfInBounds i true):=by
 intro j oj hj hl k hk;rw [Bp hlt] at hl ⊢;by_cases hki : k = i
 ·rw [if_pos hki]
 ·rw [if_neg hki];by_cases hji : j = i
  ·subst hji;rw [hi] at hj;cases hj;exact hdep k hk
  ·rw [if_neg hji] at hl;exact h j oj hj hl k hk
theorem De {listed : Array Bool} {i j : Nat} (hlt : i < listed.size) (h : listed.getD j false = true) : (listed.setIfInBounds i true).getD j false = true:=by
 rw [Bp hlt]
 split
 ·rfl
 ·exact h
structure RelHyps (P : Program) (l : List Oper) (late : List Nat) (s : Nat) (a0 : Act) (R : Nat → (Nat → Value) → World → Prop) (W : World) (Q : Exit → Act → World → Prop) : Prop where
 loc : ∀ (i : Nat) (o : Oper) (x y : Nat → Value) (w : World),l[i]? = some o → (∀ j,(j = i ∨ Bq o j = true) → x j = y j) → R i x w → R i y w
 stab : ∀ (i : Nat) (x : Nat → Value) (w w' : World),Below w.heap.size w w' → R i x w → R i x w'
 step : ∀ (i : Nat) (o : Oper) (x : Nat → Value) (w' : World),l[i]? = some o → i ≠ s → late.contains i = false → Below W.heap.size W w' → (∀ j,Bq o j = true → R j x w') →
   if Region.wanted o (yielded l.toArray (Cr x 0 l a0).tmps) = true then goes P o (Cr x 0 l a0) w' (fun v w''=>Below w'.heap.size w' w'' ∧ R i (updX x i v) w'') else R i (updX x i undef) w'
 lates : ∀ (i : Nat) (o : Oper) (x : Nat → Value) (w' : World),l[i]? = some o → late.contains i = true → Below W.heap.size W w' → (∀ j,Bq o j = true → j ≠ s → R j x w') →
   if Region.wanted o (yielded l.toArray (Cr x 0 l a0).tmps) = true then ∃ v,(∀ w',(execOp (Cr x 0 l a0).eval o).run P w' = .ok (.value v) w') ∧ R i (updX x i v) w' else R i (updX x i undef) w'
 sto : ∀ (o : Oper) (x : Nat → Value) (w' : World),l[s]? = some o → Below W.heap.size W w' → (∀ i,i < l.length → i ≠ s → late.contains i = false → R i x w') → ∃ w1,(execOp (Cr x 0 l a0).eval o).run P w' = .ok .skip w1
 fin : ∀ (o : Oper) (x : Nat → Value) (w' w1 : World),l[s]? = some o → Below W.heap.size W w' → (∀ i,i < l.length → i ≠ s → R i x w') → (execOp (Cr x 0 l a0).eval o).run P w' = .ok .skip w1 → Q .normal (Cr x 0 l a0) w1
 fin0 : l.length ≤ s → ∀ (x : Nat → Value) (w' : World),Below W.heap.size W w' → (∀ i,i < l.length → R i x w') → Q .normal (Cr x 0 l a0) w'
end
end Go.Proofs.Ytoccapmoehdohaa
