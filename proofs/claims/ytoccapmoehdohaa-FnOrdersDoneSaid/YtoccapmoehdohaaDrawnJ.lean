/- Regions that draw their order, where memory that no operation changes may be read late. No condition. -/
import Derived.Test.YtoccapmoehdohaaFlowMem
namespace Go.Proofs.Ytoccapmoehdohaa
open Go.RowKit _root_.Go.Proofs.Try
set_option linter.unusedVariables false
set_option linter.unusedSimpArgs false
namespace J
def Ex (J : World → Prop) (P : Program) (l : List Oper) (a0 : Act) (late chain0 : List Nat) (links : List (Nat × Nat)) (R : Nat → Value → World → Prop) (Q : Exit → Act → World → Prop) (x0 : Nat → Value) (w0 : World) : List Nat → List (Nat × Value) → World → Prop
 | [],kn,w=>∀ x : Nat → Value,(∀ i,i < l.length → late.contains i = false → chain0.contains i = false → x i = x0 i) → (∀ i,i < l.length → late.contains i = true → R i (x i) w0) → (∀ c ∈ kn,x c.1 = c.2) → (∀ c ∈ links,x c.1 = x c.2) → Q .normal (Cr x 0 l a0) w
 | s :: rest,kn,w=>∀ o,l[s]? = some o → ∀ x : Nat → Value,(∀ i,i < l.length → late.contains i = false → chain0.contains i = false → x i = x0 i) → (∀ i,late.contains i = true → Bq o i = true → R i (x i) w0) → (∀ c ∈ kn,x c.1 = c.2) →
   Bm P o (Co x (Bq o) 0 l a0).eval w (fun v w1=>J w1 ∧ Ex J P l a0 late chain0 links R Q x0 w0 rest ((s,v) :: kn) w1)
section
variable {P : Program} {l : List Oper} {a0 : Act} {late chain : List Nat} {links : List (Nat × Nat)} {R : Nat → Value → World → Prop} {W : World} {Q : Exit → Act → World → Prop} {J : World → Prop}
structure ChHyps (J : World → Prop) (P : Program) (l : List Oper) (late chain : List Nat) (links : List (Nat × Nat)) (a0 : Act) (R : Nat → Value → World → Prop) (W : World) (Q : Exit → Act → World → Prop) : Prop where
 stab : ∀ (i : Nat) (v : Value) (w w' : World),Below w.heap.size w w' → R i v w → R i v w'
 step : ∀ (i : Nat) (o : Oper) (x : Nat → Value) (w' : World),l[i]? = some o → chain.contains i = false → late.contains i = false → Below W.heap.size W w' → (∀ j,Bq o j = true → R j (x j) w') →
   if Region.wanted o (yielded l.toArray (Co x (Bq o) 0 l a0).tmps) = true then goes P o (Co x (Bq o) 0 l a0) w' (fun v w''=>Below w'.heap.size w' w'' ∧ R i v w'') else R i undef w'
 lates : ∀ (i : Nat) (o : Oper) (x : Nat → Value) (w' : World),l[i]? = some o → late.contains i = true → Below W.heap.size W w' → (∀ j,Bq o j = true → chain.contains j = false → R j (x j) w') →
   if Region.wanted o (yielded l.toArray (Co x (Bq o) 0 l a0).tmps) = true then ∃ v,(∀ w',J w' → (execOp (Co x (Bq o) 0 l a0).eval o).run P w' = .ok (.value v) w') ∧ R i v w' else R i undef w'
 chn : ∀ (x0 : Nat → Value) (w0 : World),Below W.heap.size W w0 → (∀ i,i < l.length → chain.contains i = false → late.contains i = false → R i (x0 i) w0) → Ex J P l a0 late chain links R Q x0 w0 chain [] w0
 jst : ∀ w',Below W.heap.size W w' → J w'
theorem ch_late (F : RegF l) {nn : Nat} (LF : LinkFacts l late nn links) (hnn : a0.tmps.size = nn) (C : ChFacts l late chain) (H : ChHyps J P l late chain links a0 R W Q) {x0 : Nat → Value} {w0 : World} (hW : Below W.heap.size W w0) (hx0 : ∀ i,i < l.length → chain.contains i = false → late.contains i = false → R i (x0 i) w0) :
  ∀ (fuel : Nat) (listed : Array Bool) (a : Act) (w : World) (x : Nat → Value) (p : Nat) (rest : List Nat) (kn : List (Nat × Value)),listed.size = l.length → left l.length listed ≤ fuel → Stands l a0 x listed a → Closed l listed → chain.drop p = rest → 0 < p →
   (∀ q s : Nat,q < p → chain[q]? = some s → listed.getD s false = true) → (∀ q s : Nat,p ≤ q → chain[q]? = some s → listed.getD s false = false) →
   (∀ i,i < l.length → chain.contains i = false → late.contains i = false → listed.getD i false = true) →
   (∀ i,i < l.length → late.contains i = false → chain.contains i = false → x i = x0 i) →
   (∀ i,i < l.length → listed.getD i false = true → late.contains i = true → R i (x i) w0) →
   (∀ c ∈ kn,x c.1 = c.2 ∧ listed.getD c.1 false = true) → (∀ c ∈ links,listed.getD c.1 false = true → x c.1 = x c.2) →
   J w → Ex J P l a0 late chain links R Q x0 w0 rest kn w → wpAny P .any l.toArray Q fuel listed a w:=by
 intro fuel;have hlate : ∀ c ∈ links,late.contains c.1 = true:=LF.late;have hlks : ∀ c ∈ links,c.1 < l.length:=LF.lt;have hdone : ∀ (listed : Array Bool) (a : Act) (w : World) (x : Nat → Value) (p : Nat) (rest : List Nat) (kn : List (Nat × Value)),Stands l a0 x listed a → (∀ i,i < l.length → listed.getD i false = true) → chain.drop p = rest →
   (∀ q s : Nat,p ≤ q → chain[q]? = some s → listed.getD s false = false) →
   (∀ i,i < l.length → late.contains i = false → chain.contains i = false → x i = x0 i) → (∀ i,i < l.length → listed.getD i false = true → late.contains i = true → R i (x i) w0) → (∀ c ∈ kn,x c.1 = c.2 ∧ listed.getD c.1 false = true) → (∀ c ∈ links,listed.getD c.1 false = true → x c.1 = x c.2) →
   Ex J P l a0 late chain links R Q x0 w0 rest kn w → Q .normal a w:=by
  intro listed a w x p rest kn hA hall hr hn hx hR hk hlk hch;have hlall : ∀ c ∈ links,listed.getD c.1 false = true:=fun c hc=>hall _ (hlks c hc)
  have hrest : rest = []:=by
   cases hrr : rest with
   | nil=>rfl
   | cons s t =>
    have h1 : chain[p]? = some s:=by
     have h2 : (chain.drop p)[0]? = some s:=by rw [hr,hrr]; rfl
     rwa [List.getElem?_drop,Nat.add_zero] at h2
    have h3:=hn p s (Nat.le_refl _) h1;rw [hall s (C.lt p s h1)] at h3;cases h3
  rw [hrest] at hch;rw [hA.all hall];exact hch x hx (fun i hi hl=>hR i hi (hall i hi) hl) (fun c hc=>(hk c hc).1) (fun c hc=>hlk c hc (hlall c hc))
 induction fuel with
 | zero =>
  intro listed a w x p rest kn hsz hleft hA hC hr hp hcl hcn hf hx hR hk hlk hJ hch;have hall:=left_zero hleft;refine ⟨?_,hdone listed a w x p rest kn hA hall hr hcn hx hR hk hlk hch⟩;cases hrd : Region.ready .any l.toArray listed with
  | nil=>rfl
  | cons i t =>
   obtain ⟨o,ho,hi,hun,_⟩:=El hsz (i:=i) (by rw [hrd]; exact List.mem_cons_self);rw [hall i hi] at hun;cases hun
 | succ fuel ih =>
  intro listed a w x p rest kn hsz hleft hA hC hr hp hcl hcn hf hx hR hk hlk hJ hch;refine ⟨fun hrd=>hdone listed a w x p rest kn hA (ready_none F hsz hrd) hr hcn hx hR hk hlk hch,fun i hi=>?_⟩;obtain ⟨o,ho,hin,hun,hdep⟩:=El hsz hi;have hlt : i < listed.size:=by omega
  have hdlt:=ready_lt hsz hdep;have hkn' : ∀ v,∀ c ∈ kn,updX x i v c.1 = c.2 ∧ (listed.setIfInBounds i true).getD c.1 false = true:=fun v c hc=>by
   obtain ⟨h1,h2⟩:=hk c hc;have hne : c.1 ≠ i:=fun e=>by rw [e,hun] at h2; cases h2
   exact ⟨by rw [Dq x v hne]; exact h1,De hlt h2⟩
  have hx' : ∀ v,(chain.contains i = true ∨ late.contains i = true) → ∀ j,j < l.length → late.contains j = false → chain.contains j = false → updX x i v j = x0 j:=fun v hor j hj h1 h2=>by
   have hne : j ≠ i:=fun e=>by
    subst e;rcases hor with h3 | h3
    ·rw [h2] at h3; cases h3
    ·rw [h1] at h3; cases h3
   rw [Dq x v hne];exact hx j hj h1 h2
  cases hic : chain.contains i with
  | true =>
   obtain ⟨q,hq⟩:=mem_contains.1 hic;have hpq : q = p:=by
    rcases Nat.lt_trichotomy q p with h1 | h1 | h1
    ·have:=hcl q i h1 hq;rw [this] at hun;cases hun
    ·exact h1
    ·exfalso
     have hql : q < chain.length:=(List.getElem?_eq_some_iff.1 hq).1;have hq1 : chain[q - 1]? = some (chain[q - 1]'(by omega)):=List.getElem?_eq_getElem _;have hd:=C.next (q - 1) _ i o hq1 (by rw [show q - 1 + 1 = q from by omega]; exact hq) ho;have h3:=hcn (q - 1) _ (by omega) hq1;rw [hdep _ hd] at h3;cases h3
   subst hpq;have hrest : rest = i :: chain.drop (q + 1):=by
    rw [← hr];have hql : q < chain.length:=(List.getElem?_eq_some_iff.1 hq).1;rw [List.drop_eq_getElem_cons hql,(List.getElem?_eq_some_iff.1 hq).2]
   rw [hrest] at hch;have hgo:=hch o ho x hx (fun j hl hd=>hR j (hdlt j hd) (hdep j hd) hl) (fun c hc=>(hk c hc).1);unfold wpOp;simp only [List.getElem?_toArray,ho];rw [if_pos (by simp [Region.wanted,C.guard q i o hq ho])];refine .inl (goes_wp (goes_congr (hA.exec F hC ho hun hdep) (show goes P o (Co x (Bq o) 0 l a0) w _ from hgo)) (fun v w' hv=>?_));refine ih _ _ w' (updX x i v) (q + 1) _ _ (by rw [Array.size_setIfInBounds]; exact hsz) (Fa hin hlt hun hleft) (hA.step F ho hlt v) (hC.step ho hlt hdep) rfl (by omega) (fun r s hr' hs=>?_) (fun r s hr' hs=>?_) (fun j hj h1 h2=>De hlt (hf j hj h1 h2)) (hx' v (.inl hic)) (fun j hj hjl hl=>?_) (fun c hc=>?_) (En LF hC hlt hsz hun hlk ho hdep (fun c hc e=>by have:=hlate c hc; rw [e,C.nlate q i hq] at this; cases this)) hv.1 hv.2
   ·rcases Nat.lt_or_ge r q with h1 | h1
    ·exact De hlt (hcl r s h1 hs)
    ·obtain rfl : r = q:=by omega
     rw [hq] at hs;cases hs;rw [Bp hlt,if_pos rfl]
   ·rw [Bp hlt];have hsi : s ≠ i:=fun e=>by
     subst e;have key : ∀ d s' t : Nat,chain[q]? = some s' → chain[q + 1 + d]? = some t → s' < t:=by
      intro d
      induction d with
      | zero =>
       intro s' t h1 h2;have hto:=C.lt _ _ h2;obtain ⟨e,he,hb⟩:=List.any_eq_true.1 (C.next q s' t _ h1 h2 (List.getElem?_eq_getElem hto));simp only [Bool.and_eq_true,beq_iff_eq] at hb;have:=F.lex t _ (List.getElem?_eq_getElem hto) e (by simpa using he) hb.1;omega
      | succ d ih2 =>
       intro s' t h1 h2;have hlen : q + 1 + d < chain.length:=by have:=(List.getElem?_eq_some_iff.1 h2).1; omega
       have h3:=ih2 s' _ h1 (List.getElem?_eq_getElem hlen);have hto:=C.lt _ _ h2;obtain ⟨e,he,hb⟩:=List.any_eq_true.1 (C.next (q + 1 + d) _ t _ (List.getElem?_eq_getElem hlen) (by rw [show q + 1 + d + 1 = q + 1 + (d + 1) from by omega]; exact h2) (List.getElem?_eq_getElem hto));simp only [Bool.and_eq_true,beq_iff_eq] at hb;have:=F.lex t _ (List.getElem?_eq_getElem hto) e (by simpa using he) hb.1;omega
     have:=key (r - (q + 1)) s s hq (by rw [show q + 1 + (r - (q + 1)) = r from by omega]; exact hs);omega
    rw [if_neg hsi];exact hcn r s (by omega) hs
   ·have hne : j ≠ i:=fun e=>by
     subst e;have:=C.nlate q j hq;rw [this] at hl;cases hl
    rw [Bp hlt,if_neg hne] at hjl;rw [Dq x v hne];exact hR j hj hjl hl
   ·rcases List.mem_cons.1 hc with rfl | hc
    ·exact ⟨Ea x i v,by rw [Bp hlt,if_pos rfl]⟩
    ·exact hkn' v c hc
  | false =>
   have hil : late.contains i = true:=by
    cases hb : late.contains i with
    | true=>rfl
    | false =>
     have:=hf i hin hic hb;rw [this] at hun;cases hun
   have key : ∀ v,R i v w0 → (∀ c ∈ links,c.1 = i → v = x c.2) → wpAny P .any l.toArray Q fuel (listed.setIfInBounds i true) (a.put o.dst v) w:=by
    intro v hv hlv;refine ih _ _ w (updX x i v) p rest kn (by rw [Array.size_setIfInBounds]; exact hsz) (Fa hin hlt hun hleft) (hA.step F ho hlt v) (hC.step ho hlt hdep) hr hp (fun q s h1 h2=>De hlt (hcl q s h1 h2)) (fun q s h1 h2=>?_) (fun j hj h1 h2=>De hlt (hf j hj h1 h2)) (hx' v (.inr hil)) (fun j hj hjl hl=>?_) (hkn' v) (En LF hC hlt hsz hun hlk ho hdep hlv) hJ hch
    ·have hne : s ≠ i:=fun e=>by
      subst e;have:=mem_contains.2 ⟨q,h2⟩;rw [this] at hic;cases hic
     rw [Bp hlt,if_neg hne];exact hcn q s h1 h2
    ·by_cases hji : j = i
     ·subst hji;rw [Ea];exact hv
     ·rw [Bp hlt,if_neg hji] at hjl;rw [Dq x v hji];exact hR j hj hjl hl
   have hl:=H.lates i o x w0 ho hil hW (fun j hj hjc=>by
    have hjlt:=hdlt j hj;cases hjl : late.contains j with
    | true=>exact hR j hjlt (hdep j hj) hjl
    | false =>
     rw [hx j hjlt hjl hjc];exact hx0 j hjlt hjc hjl)
   unfold wpOp;simp only [List.getElem?_toArray,ho];rw [hA.want F hC ho hun hdep]
   split
   ·rename_i hw
    rw [if_pos hw] at hl;obtain ⟨v,hv,hr'⟩:=hl;refine .inl ?_;unfold Oper.wp;rw [hA.exec F hC ho hun hdep,hv w hJ];exact key v hr' (fun c hc e=>link_val F LF hnn hc (by rw [e]; exact ho) (hv w hJ))
   ·rename_i hw
    rw [if_neg hw] at hl;exact key undef hl (fun c hc e=>absurd (by unfold Region.wanted; rw [(LF.dep c hc o (by rw [e]; exact ho)).2]) hw)
theorem ch_any (F : RegF l) {nn : Nat} (LF : LinkFacts l late nn links) (hnn : a0.tmps.size = nn) (C : ChFacts l late chain) (H : ChHyps J P l late chain links a0 R W Q) :
  ∀ (fuel : Nat) (listed : Array Bool) (a : Act) (w : World) (x : Nat → Value),listed.size = l.length → left l.length listed ≤ fuel → Stands l a0 x listed a → Closed l listed → Below W.heap.size W w → (∀ q s : Nat,chain[q]? = some s → listed.getD s false = false) →
   (∀ i,i < l.length → listed.getD i false = true → R i (x i) w) → (∀ c ∈ links,listed.getD c.1 false = true → x c.1 = x c.2) → wpAny P .any l.toArray Q fuel listed a w:=by
 intro fuel;have hdone : ∀ (listed : Array Bool) (a : Act) (w : World) (x : Nat → Value),Stands l a0 x listed a → (∀ i,i < l.length → listed.getD i false = true) → Below W.heap.size W w → (∀ q s : Nat,chain[q]? = some s → listed.getD s false = false) →
   (∀ i,i < l.length → listed.getD i false = true → R i (x i) w) → (∀ c ∈ links,listed.getD c.1 false = true → x c.1 = x c.2) → Q .normal a w:=by
  intro listed a w x hA hall hB hs hR hlk;have hnil : chain = []:=by
   cases hcc : chain with
   | nil=>rfl
   | cons s t =>
    have h1 : chain[0]? = some s:=by rw [hcc]; rfl
    have:=hs 0 s h1;rw [hall s (C.lt 0 s h1)] at this;cases this
  rw [hA.all hall];have hch:=H.chn x w hB (fun i hi _ _=>hR i hi (hall i hi));rw [hnil] at hch;exact hch x (fun _ _ _ _=>rfl) (fun i hi _=>hR i hi (hall i hi)) (fun c hc=>by cases hc) (fun c hc=>hlk c hc (hall _ (LF.lt c hc)))
 induction fuel with
 | zero =>
  intro listed a w x hsz hleft hA hC hB hs hR hlk;have hall:=left_zero hleft;refine ⟨?_,hdone listed a w x hA hall hB hs hR hlk⟩;cases hr : Region.ready .any l.toArray listed with
  | nil=>rfl
  | cons i t =>
   obtain ⟨o,ho,hi,hun,_⟩:=El hsz (i:=i) (by rw [hr]; exact List.mem_cons_self);rw [hall i hi] at hun;cases hun
 | succ fuel ih =>
  intro listed a w x hsz hleft hA hC hB hs hR hlk;refine ⟨fun hr=>hdone listed a w x hA (ready_none F hsz hr) hB hs hR hlk,fun i hi=>?_⟩;obtain ⟨o,ho,hin,hun,hdep⟩:=El hsz hi;have hlt : i < listed.size:=by omega
  have hdlt:=ready_lt hsz hdep;cases hic : chain.contains i with
  | true =>
   obtain ⟨q,hq⟩:=mem_contains.1 hic;have hq0 : q = 0:=by
    rcases Nat.eq_zero_or_pos q with h1 | h1
    ·exact h1
    ·exfalso
     have hql : q < chain.length:=(List.getElem?_eq_some_iff.1 hq).1;have hq1 : chain[q - 1]? = some (chain[q - 1]'(by omega)):=List.getElem?_eq_getElem _;have hd:=C.next (q - 1) _ i o hq1 (by rw [show q - 1 + 1 = q from by omega]; exact hq) ho;have h3:=hs (q - 1) _ hq1;rw [hdep _ hd] at h3;cases h3
   subst hq0;have hnl:=ch_feeds C hC hq ho hdep;have hx0 : ∀ i,i < l.length → chain.contains i = false → late.contains i = false → R i (x i) w:=fun k hk h1 h2=>hR k hk (hnl k hk h1 h2)
   have hch:=H.chn x w hB hx0;have hcc : chain = i :: chain.drop 1:=by
    have hql : 0 < chain.length:=(List.getElem?_eq_some_iff.1 hq).1;have h5:=List.drop_eq_getElem_cons hql;rw [List.drop_zero,(List.getElem?_eq_some_iff.1 hq).2] at h5;exact h5
   have hch2 : Ex J P l a0 late chain links R Q x w (i :: chain.drop 1) [] w:=by rw [← hcc]; exact hch
   have hgo:=hch2 o ho x (fun _ _ _ _=>rfl) (fun j hl hd=>hR j (hdlt j hd) (hdep j hd)) (fun c hc=>by cases hc);unfold wpOp;simp only [List.getElem?_toArray,ho];rw [if_pos (by simp [Region.wanted,C.guard 0 i o hq ho])];refine .inl (goes_wp (goes_congr (hA.exec F hC ho hun hdep) (show goes P o (Co x (Bq o) 0 l a0) w _ from hgo)) (fun v w' hv=>?_));have hne2 : ∀ r s : Nat,1 ≤ r → chain[r]? = some s → s ≠ i:=by
    intro r s hr hs' e;subst e;have key : ∀ d t : Nat,chain[1 + d]? = some t → s < t:=by
     intro d
     induction d with
     | zero =>
      intro t h2;have hto:=C.lt _ _ h2;obtain ⟨e,he,hb⟩:=List.any_eq_true.1 (C.next 0 s t _ hq h2 (List.getElem?_eq_getElem hto));simp only [Bool.and_eq_true,beq_iff_eq] at hb;have:=F.lex t _ (List.getElem?_eq_getElem hto) e (by simpa using he) hb.1;omega
     | succ d ih2 =>
      intro t h2;have hlen : 1 + d < chain.length:=by have:=(List.getElem?_eq_some_iff.1 h2).1; omega
      have h3:=ih2 _ (List.getElem?_eq_getElem hlen);have hto:=C.lt _ _ h2;obtain ⟨e,he,hb⟩:=List.any_eq_true.1 (C.next (1 + d) _ t _ (List.getElem?_eq_getElem hlen) (by rw [show 1 + d + 1 = 1 + (d + 1) from by omega]; exact h2) (List.getElem?_eq_getElem hto));simp only [Bool.and_eq_true,beq_iff_eq] at hb;have:=F.lex t _ (List.getElem?_eq_getElem hto) e (by simpa using he) hb.1;omega
    have:=key (r - 1) s (by rw [show 1 + (r - 1) = r from by omega]; exact hs');omega
   refine ch_late F LF hnn C H hB hx0 fuel _ _ w' (updX x i v) 1 _ _ (by rw [Array.size_setIfInBounds]; exact hsz) (Fa hin hlt hun hleft) (hA.step F ho hlt v) (hC.step ho hlt hdep) rfl (by omega) (fun r s hr' hs'=>?_) (fun r s hr' hs'=>?_) (fun j hj h1 h2=>De hlt (hnl j hj h1 h2)) (fun j hj h1 h2=>?_) (fun j hj hjl hl=>?_) (fun c hc=>?_) (En LF hC hlt hsz hun hlk ho hdep (fun c hc e=>by have:=LF.late c hc; rw [e,C.nlate 0 i hq] at this; cases this)) hv.1 hv.2
   ·obtain rfl : r = 0:=by omega
    rw [hq] at hs';cases hs';rw [Bp hlt,if_pos rfl]
   ·rw [Bp hlt,if_neg (hne2 r s hr' hs')];exact hs r s hs'
   ·have hne : j ≠ i:=fun e=>by rw [e,hic] at h2; cases h2
    rw [Dq x v hne]
   ·have hne : j ≠ i:=fun e=>by
     subst e;rw [C.nlate 0 j hq] at hl;cases hl
    rw [Bp hlt,if_neg hne] at hjl;rw [Dq x v hne];exact hR j hj hjl
   ·rcases List.mem_cons.1 hc with rfl | hc
    ·exact ⟨Ea x i v,by rw [Bp hlt,if_pos rfl]⟩
    ·cases hc
  | false =>
   have hs' : ∀ q s : Nat,chain[q]? = some s → (listed.setIfInBounds i true).getD s false = false:=fun q s hq=>by
    have hne : s ≠ i:=fun e=>by
     subst e;have:=mem_contains.2 ⟨q,hq⟩;rw [this] at hic;cases hic
    rw [Bp hlt,if_neg hne];exact hs q s hq
   have key : ∀ v w',Below w.heap.size w w' → R i v w' → (∀ c ∈ links,c.1 = i → v = x c.2) → wpAny P .any l.toArray Q fuel (listed.setIfInBounds i true) (a.put o.dst v) w':=by
    intro v w' hb hv hlv;refine ih _ _ w' (updX x i v) (by rw [Array.size_setIfInBounds]; exact hsz) (Fa hin hlt hun hleft) (hA.step F ho hlt v) (hC.step ho hlt hdep) (hB.trans (hb.mono hB.size)) hs' (fun k hk hkl=>?_) (En LF hC hlt hsz hun hlk ho hdep hlv);rw [Bp hlt] at hkl;by_cases hki : k = i
    ·rw [hki,Ea]; exact hv
    ·rw [if_neg hki] at hkl;rw [Dq x v hki];exact H.stab k _ w w' hb (hR k hk hkl)
   unfold wpOp;simp only [List.getElem?_toArray,ho];rw [hA.want F hC ho hun hdep];cases hil : late.contains i with
   | true =>
    have hl:=H.lates i o x w ho hil hB (fun j hj _=>hR j (hdlt j hj) (hdep j hj))
    split
    ·rename_i hw
     rw [if_pos hw] at hl;obtain ⟨v,hv,hr⟩:=hl;refine .inl ?_;unfold Oper.wp;rw [hA.exec F hC ho hun hdep,hv w (H.jst w hB)];exact key v w Br hr (fun c hc e=>link_val F LF hnn hc (by rw [e]; exact ho) (hv w (H.jst w hB)))
    ·rename_i hw
     rw [if_neg hw] at hl;exact key undef w Br hl (fun c hc e=>absurd (by unfold Region.wanted; rw [(LF.dep c hc o (by rw [e]; exact ho)).2]) hw)
   | false =>
    have hl:=H.step i o x w ho hic hil hB (fun j hj=>hR j (hdlt j hj) (hdep j hj))
    split
    ·rename_i hw
     rw [if_pos hw] at hl;exact .inl (goes_wp (goes_congr (hA.exec F hC ho hun hdep) hl) (fun v w' hv=>key v w' hv.1 hv.2 (fun c hc e=>by have:=LF.late c hc; rw [e,hil] at this; cases this)))
    ·rename_i hw
     rw [if_neg hw] at hl;exact key undef w Br hl (fun c hc e=>by have:=LF.late c hc; rw [e,hil] at this; cases this)
theorem wp_region_ch {id n : Nat} {a : Act} {w : World} (late chain : List Nat) (links : List (Nat × Nat)) (R : Nat → Value → World → Prop) (hm : P.follows .mixedOrders = true) (hB : (regOk l && chOk l late chain) = true) (hL : linkOk l late n links = true) (hn : a.tmps.size = n)
  (h : ∀ W,Below w.heap.size w W → W.heap.size = w.heap.size → ChHyps J P l late chain links a R W Q) : (Code.region id l.toArray true).wp P Q a w:=by
 rw [Bool.and_eq_true] at hB;have F:=regF hB.1;have C:=chFacts hB.2;refine wp_region_any hm ?_;have hz : ∀ i,(Array.replicate l.toArray.size false).getD i false = false:=fun i=>by
  rw [Array.getD_eq_getD_getElem?,Array.getElem?_replicate]
  split <;> rfl
 refine ch_any F (linkFacts hL) hn C (h w.drew Br.drew rfl) _ _ a _ (fun _=>undef) (by simp) ?_ (Stands.start (fun i _=>hz i)) (fun j o _ hl=>by rw [hz] at hl; cases hl) Br (fun q s _=>hz s) (fun i _ hl=>by rw [hz] at hl; cases hl) (fun _ _ _=>rfl);unfold left;refine Nat.le_trans List.countP_le_length ?_;simp
end
section
variable {P : Program} {l : List Oper} {late chain : List Nat} {a0 : Act} {R : Nat → Value → World → Prop} {W : World} {Q : Exit → Act → World → Prop} {J : World → Prop}
def StepD (P : Program) (l : List Oper) (a0 : Act) (R : Nat → Value → World → Prop) (W : World) (k : Nat) (o : Oper) : Prop :=
 ∀ (x : Nat → Value) (w' : World) (ρ : Operand → Value),ReadsO l a0 o x ρ → Below W.heap.size W w' → (∀ j,Bq o j = true → R j (x j) w') → ∀ K : Value → World → Prop,(∀ v w'',Below w'.heap.size w' w'' → R k v w'' → K v w'') → Bm P o ρ w' K
def LateD (J : World → Prop) (P : Program) (l : List Oper) (a0 : Act) (chain : List Nat) (R : Nat → Value → World → Prop) (W : World) (k : Nat) (o : Oper) : Prop :=
 ∀ (x : Nat → Value) (w' : World) (ρ : Operand → Value),ReadsO l a0 o x ρ → Below W.heap.size W w' → (∀ j,Bq o j = true → chain.contains j = false → R j (x j) w') → ∃ v,(∀ w',J w' → (execOp ρ o).run P w' = .ok (.value v) w') ∧ R k v w'
def GuardYes (l : List Oper) (R : Nat → Value → World → Prop) (o : Oper) : Prop :=
 o.guard = none ∨ ∃ g b t,o.guard = some (g,b) ∧ (l[g]?).bind (·.dst) = some t ∧ Bq o g = true ∧ ∀ v w,R g v w → v = .bool b
def GuardNo (l : List Oper) (R : Nat → Value → World → Prop) (o : Oper) : Prop :=
 ∃ g b t,o.guard = some (g,b) ∧ (l[g]?).bind (·.dst) = some t ∧ Bq o g = true ∧ ∀ v w,R g v w → v = .bool (!b) ∨ v = undef
def Cy (J : World → Prop) (P : Program) (l : List Oper) (late chain : List Nat) (a0 : Act) (R : Nat → Value → World → Prop) (W : World) : Nat → List Oper → Prop
 | _,[]=>True
 | k,o :: rest=>(chain.contains k = false → (GuardNo l R o ∧ ∀ w,R k undef w) ∨ (GuardYes l R o ∧ (late.contains k = false → StepD P l a0 R W k o) ∧ (late.contains k = true → LateD J P l a0 chain R W k o))) ∧ Cy J P l late chain a0 R W (k + 1) rest
theorem Ej {k : Nat} : Cy J P l late chain a0 R W k []:=trivial
theorem Al {k : Nat} {o : Oper} {rest : List Oper} (hl : late.contains k = false) (hg : o.guard = none) (h : StepD P l a0 R W k o) (h2 : Cy J P l late chain a0 R W (k + 1) rest) : Cy J P l late chain a0 R W k (o :: rest) :=
 ⟨fun _=>.inr ⟨.inl hg,fun _=>h,fun h'=>by rw [hl] at h'; cases h'⟩,h2⟩
theorem Bh {k : Nat} {o : Oper} {rest : List Oper} (hl : late.contains k = false) (g : Nat) (b : Bool) (t : Nat) (hg : o.guard = some (g,b)) (ht : (l[g]?).bind (·.dst) = some t) (hd : Bq o g = true) (hR : ∀ v w,R g v w → v = .bool b) (h : StepD P l a0 R W k o) (h2 : Cy J P l late chain a0 R W (k + 1) rest) : Cy J P l late chain a0 R W k (o :: rest) :=
 ⟨fun _=>.inr ⟨.inr ⟨g,b,t,hg,ht,hd,hR⟩,fun _=>h,fun h'=>by rw [hl] at h'; cases h'⟩,h2⟩
theorem Bb {k : Nat} {o : Oper} {rest : List Oper} (g : Nat) (b : Bool) (t : Nat) (hg : o.guard = some (g,b)) (ht : (l[g]?).bind (·.dst) = some t) (hd : Bq o g = true) (hR : ∀ v w,R g v w → v = .bool (!b) ∨ v = undef) (h : ∀ w,R k undef w) (h2 : Cy J P l late chain a0 R W (k + 1) rest) : Cy J P l late chain a0 R W k (o :: rest) :=
 ⟨fun _=>.inl ⟨⟨g,b,t,hg,ht,hd,hR⟩,h⟩,h2⟩
theorem d_late {k : Nat} {o : Oper} {rest : List Oper} (hl : late.contains k = true) (hg : o.guard = none) (h : LateD J P l a0 chain R W k o) (h2 : Cy J P l late chain a0 R W (k + 1) rest) : Cy J P l late chain a0 R W k (o :: rest) :=
 ⟨fun _=>.inr ⟨.inl hg,fun h'=>(by rw [hl] at h'; cases h'),fun _=>h⟩,h2⟩
theorem Ev {k : Nat} {o : Oper} {rest : List Oper} (hk : chain.contains k = true) (h2 : Cy J P l late chain a0 R W (k + 1) rest) : Cy J P l late chain a0 R W k (o :: rest) :=
 ⟨fun h=>absurd (hk.symm.trans h) (by simp),h2⟩
theorem d_at : ∀ (m : List Oper) (k i : Nat) (o : Oper),Cy J P l late chain a0 R W k m → m[i]? = some o → chain.contains (k + i) = false →
  (GuardNo l R o ∧ ∀ w,R (k + i) undef w) ∨ (GuardYes l R o ∧ (late.contains (k + i) = false → StepD P l a0 R W (k + i) o) ∧ (late.contains (k + i) = true → LateD J P l a0 chain R W (k + i) o))
 | [],_,_,_,_,h,_=>by simp at h
 | o :: m,k,0,o',h,ho,hs=>by
  obtain rfl : o = o':=by simpa using ho
  exact h.1 hs
 | o :: m,k,i + 1,o',h,ho,hs=>by
  have:=d_at m (k + 1) i o' h.2 (by simpa using ho) (by rwa [show k + 1 + i = k + (i + 1) from by omega])
  rwa [show k + 1 + i = k + (i + 1) from by omega] at this
theorem guard_yes (F : RegF l) {o : Oper} {x : Nat → Value} {w' : World} (hg : GuardYes l R o) (hd : ∀ j,Bq o j = true → chain.contains j = false → R j (x j) w') (hc : ∀ g b,o.guard = some (g,b) → chain.contains g = false) (hsz : ∀ t,(∃ o' ∈ l,o'.dst = some t) → t < a0.tmps.size) : Region.wanted o (yielded l.toArray (Co x (Bq o) 0 l a0).tmps) = true:=by
 unfold Region.wanted;rcases hg with h | ⟨g,b,t,h,ht,hdep,hR⟩
 ·rw [h]
 ·rw [h];have hv:=hR _ _ (hd g hdep (hc g b h));cases ho : l[g]? with
  | none=>rw [ho] at ht; cases ht
  | some og =>
   rw [ho] at ht;have hdst : og.dst = some t:=ht;have hf:=Dm x (Bq o) l 0 a0 g og ho hdst (by rw [Nat.zero_add]; exact hdep) (fun i' o' hne ho' hd'=>hne (F.dst i' g o' og t ho' ho hd' hdst));rw [if_pos (hsz t ⟨og,List.mem_of_getElem? ho,hdst⟩),Nat.zero_add,hv] at hf;have : yielded l.toArray (Co x (Bq o) 0 l a0).tmps g = some b:=by
    unfold yielded;simp only [List.getElem?_toArray,ho,Option.bind_some,hdst,hf]
   simp [this]
theorem guard_no (F : RegF l) {o : Oper} {x : Nat → Value} {w' : World} (hg : GuardNo l R o) (hd : ∀ j,Bq o j = true → chain.contains j = false → R j (x j) w') (hc : ∀ g b,o.guard = some (g,b) → chain.contains g = false) (hsz : ∀ t,(∃ o' ∈ l,o'.dst = some t) → t < a0.tmps.size) : ¬ Region.wanted o (yielded l.toArray (Co x (Bq o) 0 l a0).tmps) = true:=by
 unfold Region.wanted;obtain ⟨g,b,t,h,ht,hdep,hR⟩:=hg;rw [h];have hv:=hR _ _ (hd g hdep (hc g b h));cases ho : l[g]? with
 | none=>rw [ho] at ht; cases ht
 | some og =>
  rw [ho] at ht;have hdst : og.dst = some t:=ht;have hf:=Dm x (Bq o) l 0 a0 g og ho hdst (by rw [Nat.zero_add]; exact hdep) (fun i' o' hne ho' hd'=>hne (F.dst i' g o' og t ho' ho hd' hdst));rw [if_pos (hsz t ⟨og,List.mem_of_getElem? ho,hdst⟩),Nat.zero_add] at hf;rcases hv with hv | hv
  ·rw [hv] at hf;have : yielded l.toArray (Co x (Bq o) 0 l a0).tmps g = some (!b):=by
    unfold yielded;simp only [List.getElem?_toArray,ho,Option.bind_some,hdst,hf]
   simp only [this];cases b <;> simp
  ·rw [hv] at hf;have : yielded l.toArray (Co x (Bq o) 0 l a0).tmps g = none:=by
    unfold yielded;simp only [List.getElem?_toArray,ho,Option.bind_some,hdst,hf]
    rfl
   simp only [this];simp
def sizeOkD (l : List Oper) (n : Nat) : Bool:=l.all fun o=>match o.dst with | some t=>decide (t < n) | none=>true
def guardOkD (l : List Oper) (chain : List Nat) : Bool:=l.all fun o=>match o.guard with | some (g,_)=>!chain.contains g | none=>true
theorem wp_region_d {id n : Nat} {a : Act} {w : World} (late chain : List Nat) (links : List (Nat × Nat)) (R : Nat → Value → World → Prop) (hm : P.follows .mixedOrders = true) (hB : (regOk l && chOk l late chain) = true) (hS : (sizeOkD l n && guardOkD l chain) = true) (hL : linkOk l late n links = true) (hn : a.tmps.size = n)
  (hstab : ∀ (i : Nat) (v : Value) (w w' : World),Below w.heap.size w w' → R i v w → R i v w')
  (hsteps : Cy J P l late chain a R w 0 l) (hJ : ∀ w',Below w.heap.size w w' → J w')
  (hch : ∀ (x0 : Nat → Value) (w0 : World),Below w.heap.size w w0 → (∀ i,i < l.length → chain.contains i = false → late.contains i = false → R i (x0 i) w0) → Ex J P l a late chain links R Q x0 w0 chain [] w0) : (Code.region id l.toArray true).wp P Q a w:=by
 refine wp_region_ch (J:=J) late chain links R hm hB hL hn (fun W hW hz=>?_);rw [Bool.and_eq_true] at hB hS;have F:=regF hB.1;have hsz : ∀ t,(∃ o' ∈ l,o'.dst = some t) → t < a.tmps.size:=fun t ⟨o',ho',hd⟩=>by
  have:=List.all_eq_true.1 hS.1 o' ho';rw [hd] at this;rw [hn]
  simpa using this
 have hgc : ∀ o' ∈ l,∀ g b,o'.guard = some (g,b) → chain.contains g = false:=fun o' ho' g b hg=>by
  have:=List.all_eq_true.1 hS.2 o' ho';rw [hg] at this
  simpa using this
 have conv : ∀ {w'},Below W.heap.size W w' → Below w.heap.size w w':=fun hb=>hW.trans (hb.mono (by rw [hz]; exact Nat.le_refl _))
 refine ⟨hstab,fun i o x w' ho hic hil hb hd=>?_,fun i o x w' ho hil hb hd=>?_,fun x0 w0 hb hr=>hch x0 w0 (conv hb) hr,fun w' hb=>hJ w' (conv hb)⟩
 ·have hst:=d_at l 0 i o hsteps ho (by rw [Nat.zero_add]; exact hic);rw [Nat.zero_add] at hst;rcases hst with ⟨hg,hu⟩ | ⟨hg,h1,_⟩
  ·rw [if_neg (guard_no F hg (fun j hj _=>hd j hj) (hgc o (List.mem_of_getElem? ho)) hsz)];exact hu w'
  ·rw [if_pos (guard_yes F hg (fun j hj _=>hd j hj) (hgc o (List.mem_of_getElem? ho)) hsz)];exact (h1 hil) x w' _ (Ep F a o x) (conv hb) hd _ (fun v w'' h1 h2=>⟨h1,h2⟩)
 ·have hic : chain.contains i = false:=by
   cases hc : chain.contains i with
   | false=>rfl
   | true =>
    obtain ⟨q,hq⟩:=mem_contains.1 hc;rw [(chFacts hB.2).nlate q i hq] at hil;cases hil
  have hst:=d_at l 0 i o hsteps ho (by rw [Nat.zero_add]; exact hic);rw [Nat.zero_add] at hst;rcases hst with ⟨hg,hu⟩ | ⟨hg,_,h1⟩
  ·rw [if_neg (guard_no F hg hd (hgc o (List.mem_of_getElem? ho)) hsz)];exact hu w'
  ·rw [if_pos (guard_yes F hg hd (hgc o (List.mem_of_getElem? ho)) hsz)];exact (h1 hil) x w' _ (Ep F a o x) (conv hb) hd
end
def ChainA (J : World → Prop) (P : Program) (l : List Oper) (a0 : Act) (late chain0 : List Nat) (links : List (Nat × Nat)) (R : Nat → Value → World → Prop) (Q : Exit → Act → World → Prop) (x0 : Nat → Value) (w0 : World) : List Nat → List (Nat × Value) → World → Prop
 | [],kn,w=>∀ (x : Nat → Value) (b : Act),Reads l a0 x b.eval → b.tmps.size = a0.tmps.size → b.defers = a0.defers → (∀ i,i < l.length → late.contains i = false → chain0.contains i = false → x i = x0 i) → (∀ i,i < l.length → late.contains i = true → R i (x i) w0) → (∀ c ∈ kn,x c.1 = c.2) → (∀ c ∈ links,x c.1 = x c.2) → Q .normal b w
 | s :: rest,kn,w=>∀ o,l[s]? = some o → ∀ (x : Nat → Value) (ρ : Operand → Value),ReadsO l a0 o x ρ → (∀ i,i < l.length → late.contains i = false → chain0.contains i = false → x i = x0 i) → (∀ i,late.contains i = true → Bq o i = true → R i (x i) w0) → (∀ c ∈ kn,x c.1 = c.2) →
   Bm P o ρ w (fun v w1=>J w1 ∧ ChainA J P l a0 late chain0 links R Q x0 w0 rest ((s,v) :: kn) w1)
theorem chainA_C {J : World → Prop} {P : Program} {l : List Oper} {a0 : Act} {late chain0 : List Nat} {links : List (Nat × Nat)} {R : Nat → Value → World → Prop} {Q : Exit → Act → World → Prop} (F : RegF l) (x0 : Nat → Value) (w0 : World) :
  ∀ (c : List Nat) (kn : List (Nat × Value)) (w : World),ChainA J P l a0 late chain0 links R Q x0 w0 c kn w → Ex J P l a0 late chain0 links R Q x0 w0 c kn w
 | [],_,_,h=>fun x h1 h2 h3 h4=>h x (Cr x 0 l a0) (reads_all F a0 x) (Ew x l 0 a0).1 (Ew x l 0 a0).2 h1 h2 h3 h4
 | _ :: rest,_,_,h=>fun o ho x h1 h2 h3=>goesR_mono (fun _ w1 hv=>⟨hv.1,chainA_C F x0 w0 rest _ w1 hv.2⟩) (h o ho x _ (Ep F a0 o x) h1 h2 h3)
theorem Cp {J : World → Prop} {P : Program} {l : List Oper} {Q : Exit → Act → World → Prop} {id n : Nat} {a : Act} {w : World} (late chain : List Nat) (links : List (Nat × Nat)) (R : Nat → Value → World → Prop) (hm : P.follows .mixedOrders = true) (hB : (regOk l && chOk l late chain) = true) (hS : (sizeOkD l n && guardOkD l chain) = true) (hL : linkOk l late n links = true) (hn : a.tmps.size = n)
  (hstab : ∀ (i : Nat) (v : Value) (w w' : World),Below w.heap.size w w' → R i v w → R i v w')
  (hsteps : Cy J P l late chain a R w 0 l) (hJ : ∀ w',Below w.heap.size w w' → J w')
  (hch : ∀ (x0 : Nat → Value) (w0 : World),Below w.heap.size w w0 → (∀ i,i < l.length → chain.contains i = false → late.contains i = false → R i (x0 i) w0) → ChainA J P l a late chain links R Q x0 w0 chain [] w0) : (Code.region id l.toArray true).wp P Q a w :=
 wp_region_d late chain links R hm hB hS hL hn hstab hsteps hJ fun x0 w0 hb hr=>chainA_C (regF (Bool.and_eq_true .. ▸ hB : _ ∧ _).1) x0 w0 chain [] w0 (hch x0 w0 hb hr)
end J
end Go.Proofs.Ytoccapmoehdohaa
