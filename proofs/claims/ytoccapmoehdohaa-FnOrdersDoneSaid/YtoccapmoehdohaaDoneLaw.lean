/- Plain: what orders become on a board: each waits or is done once, none is done ahead of its time, none that is due waits. No condition. -/
import Derived.Test.YtoccapmoehdohaaBdPerfLaw
import Derived.Test.YtoccapmoehdohaaBdNew
import Derived.Test.YtoccapmoehdohaaBdAcc
namespace Go.Proofs.Ytoccapmoehdohaa
open Go.RowKit _root_.Go.Proofs.Try
set_option linter.unusedSimpArgs false
set_option linter.unusedVariables false
def OrdS (a b : Az) : Prop:=a.f2 < b.f2 ∨ (a.f2 = b.f2 ∧ a.f0 ≤ b.f0)
def OrdR (a b : Az) : Prop:=a.f0 ≠ b.f0 ∧ OrdS a b
theorem OrdS.trans {a b c : Az} (h : OrdS a b) (k : OrdS b c) : OrdS a c:=by
 unfold OrdS at *;omega
structure OsG (t : Int) (os : List Az) : Prop where
 n : os.length ≤ 40
 all : ∀ w ∈ os,Da w.f1 w.f2 w.f3 w.f4 = true ∧ 0 ≤ w.f0 ∧ w.f0 ≤ t - 1
 pw : os.Pairwise OrdR
theorem osG_of {t : Int} {os : List Az} (h : osOk t os = true) : OsG t os:=by
 unfold osOk at h;simp only [Bool.and_eq_true,decide_eq_true_eq] at h;obtain ⟨h1,h2⟩:=h;unfold osTo at h2;rw [List.all_eq_true] at h2;have hA : ∀ k (hk : k < os.length),Da os[k].f1 os[k].f2 os[k].f3 os[k].f4 = true ∧ (0 ≤ os[k].f0 ∧ os[k].f0 ≤ t - 1) ∧ freshO os k = true ∧ sortO os k = true:=fun k hk=>by
  have:=h2 k (List.mem_range.2 hk);unfold osAt at this;rw [Di hk] at this;simp only [Bool.and_eq_true] at this;exact ⟨this.1,Cw this.2.1,this.2.2.1,this.2.2.2⟩
 have hF : ∀ k (hk : k < os.length) j (hj : j < k),os[j].f0 ≠ os[k].f0:=fun k hk j hj=>by
  have:=(hA k hk).2.2.1;unfold freshO at this;rw [decide_eq_true_eq,Di hk] at this;rcases idxO_cases os os[k].f0 with ⟨e,_⟩ | ⟨m,hm,e,_,hno⟩
  ·omega
  ·have : m = k:=by omega
   subst this;exact hno j hj
 have hS : ∀ k (hk : k + 1 < os.length),OrdS os[k] os[k + 1]:=fun k hk=>by
  have:=(hA (k + 1) hk).2.2.2;unfold sortO at this;rw [Di hk,Nat.add_sub_cancel,Di (by omega)] at this;simp only [Df (Nat.succ_ne_zero k),Bool.false_or,Bool.not_eq_true',Bool.or_eq_false_iff,decide_eq_false_iff_not,Bool.and_eq_false_iff] at this;unfold OrdS;omega
 have hT : ∀ d i (h : i + (d + 1) < os.length),OrdS os[i] os[i + (d + 1)]:=fun d=>by
  induction d with
  | zero=>exact fun i h=>hS i h
  | succ d ih=>exact fun i h=>(ih i (by omega)).trans (hS (i + (d + 1)) (by omega))
 refine ⟨h1,fun w hw=>?_,?_⟩
 ·obtain ⟨k,hk,rfl⟩:=List.mem_iff_getElem.1 hw;have:=hA k hk;exact ⟨this.1,this.2.1⟩
 ·rw [List.pairwise_iff_getElem];intro i j hi hj hij;refine ⟨hF j hj i hij,?_⟩;obtain ⟨d,rfl⟩ : ∃ d,j = i + (d + 1):=⟨j - i - 1,by omega⟩
  exact hT d i hj
theorem OsG.ok {t : Int} {os : List Az} (h : OsG t os) : osOk t os = true:=by
 have hp:=List.pairwise_iff_getElem.1 h.pw;unfold osOk osTo;rw [Dt h.n,Bool.true_and,List.all_eq_true];intro k hk;have hk:=List.mem_range.1 hk;have ha:=h.all _ (List.getElem_mem hk);unfold osAt;rw [Di hk,ha.1,Es ha.2.1 ha.2.2,Bool.true_and,Bool.true_and];have h1 : freshO os k = true:=by
  unfold freshO;rw [Di hk,idxO_at hk rfl fun j hj=>(hp j k (by omega) hk hj).1];simp
 have h2 : sortO os k = true:=by
  unfold sortO;cases k with
  | zero=>rfl
  | succ k =>
   have:=(hp k (k + 1) (by omega) hk (by omega)).2;unfold OrdS at this;rw [Di hk,Nat.add_sub_cancel,Di (by omega)];simp only [Df (Nat.succ_ne_zero k),Bool.false_or,Bool.not_eq_true',Bool.or_eq_false_iff,decide_eq_false_iff_not,Bool.and_eq_false_iff];omega
 rw [h1,h2]
 rfl
theorem OsG.sub {t : Int} {os os' : List Az} (h : OsG t os) (hs : os'.Sublist os) : OsG t os' :=
 ⟨Nat.le_trans hs.length_le h.n,fun w hw=>h.all w (hs.subset hw),h.pw.sublist hs⟩
theorem accN_spec (os : List Az) (t : Int) : ∀ n,(accN os t n = 0 ∨ (wAt os (accN os t n - 1)).f2 ≤ t) ∧ ∀ j,accN os t n ≤ j → j < n → t < (wAt os j).f2
 | 0=>⟨.inl rfl,fun j h1 h2=>by omega⟩
 | n + 1=>by
  obtain ⟨h1,h2⟩:=accN_spec os t n;unfold accN
  split
  ·rename_i h
   refine ⟨h1,fun j hj hn=>?_⟩;by_cases e : j = n
   ·rw [e]; exact h
   ·exact h2 j hj (by omega)
  ·refine ⟨.inr (by simp only [Nat.add_sub_cancel]; omega),fun j hj hn=>by omega⟩
theorem OsG.ins {t : Int} {os : List Az} (h : OsG t os) (ht : 0 ≤ t) (hn : os.length < 40) {k m a b : Int} (ho : Da k m a b = true) : OsG (t + 1) (insL os (accPos os m) ⟨t,k,m,a,b⟩):=by
 obtain ⟨h1,h2⟩:=accN_spec os m os.length;have h3:=accN_le os m os.length;have hp:=List.pairwise_iff_getElem.1 h.pw;unfold accPos
 generalize accN os m os.length = p at h1 h2 h3
 have hlo : ∀ x ∈ os.take p,x.f2 ≤ m:=fun x hx=>by
  obtain ⟨i,hi,rfl⟩:=List.mem_iff_getElem.1 hx;rw [List.length_take] at hi;rw [List.getElem_take];rcases h1 with h1 | h1
  ·omega
  ·rw [Di (by omega)] at h1;by_cases e : i = p - 1
   ·subst e; exact h1
   ·have:=(hp i (p - 1) (by omega) (by omega) (by omega)).2;unfold OrdS at this;omega
 have hhi : ∀ x ∈ os.drop p,m < x.f2:=fun x hx=>by
  obtain ⟨i,hi,rfl⟩:=List.mem_iff_getElem.1 hx;rw [List.length_drop] at hi;rw [List.getElem_drop];have:=h2 (p + i) (by omega) (by omega)
  rwa [Di (by omega)] at this
 have hin : ∀ x ∈ insL os p ⟨t,k,m,a,b⟩,x ∈ os ∨ x = ⟨t,k,m,a,b⟩:=fun x hx=>by
  unfold insL at hx;rcases List.mem_append.1 hx with h' | h'
  ·exact .inl (List.mem_of_mem_take h')
  ·rcases List.mem_cons.1 h' with h' | h'
   ·exact .inr h'
   ·exact .inl (List.mem_of_mem_drop h')
 refine ⟨by rw [insL_len]; omega,fun x hx=>?_,?_⟩
 ·rcases hin x hx with h' | rfl
  ·have:=h.all x h';exact ⟨this.1,this.2.1,by omega⟩
  ·exact ⟨ho,ht,by simp only; omega⟩
 ·unfold insL;rw [List.pairwise_append,List.pairwise_cons];have hno : ∀ x ∈ os,x.f0 < t:=fun x hx=>by have:=(h.all x hx).2.2; omega
  refine ⟨h.pw.sublist (List.take_sublist _ _),⟨fun x hx=>?_,h.pw.sublist (List.drop_sublist _ _)⟩,fun x hx y hy=>?_⟩
  ·have e1:=hhi x hx;have e2:=hno x (List.mem_of_mem_drop hx);exact ⟨by simp only; omega,.inl (by simp only; omega)⟩
  ·have e1:=hlo x hx;have e2:=hno x (List.mem_of_mem_take hx);rcases List.mem_cons.1 hy with rfl | hy
   ·refine ⟨by simp only; omega,?_⟩;unfold OrdS;simp only;omega
   ·obtain ⟨i,hi,rfl⟩:=List.mem_iff_getElem.1 hx;obtain ⟨j,hj,rfl⟩:=List.mem_iff_getElem.1 hy;rw [List.length_take] at hi;rw [List.length_drop] at hj;rw [List.getElem_take,List.getElem_drop];exact hp i (p + j) (by omega) (by omega) (by omega)
theorem insL_perm {α : Type} (os : List α) (k : Nat) (x : α) : (insL os k x).Perm (x :: os):=by
 unfold insL;refine List.perm_middle.trans (List.Perm.cons _ ?_);rw [List.take_append_drop]
theorem erase_perm {α : Type} : ∀ (l : List α) (j : Nat) (h : j < l.length),(l[j] :: l.eraseIdx j).Perm l
 | x :: l,0,_=>List.Perm.refl _
 | x :: l,j + 1,h=>(List.Perm.swap _ _ _).trans (List.Perm.cons x (erase_perm l j (by simpa using h)))
structure OdG (b : Ar) (ts : List Int) : Prop where
 ok : BoOk b
 tk : b.taken = (ts.length : Int)
 nums : (b.os.map (·.f0) ++ b.ds.map (·.f0)).Perm ((List.range ts.length).map (fun i=>((i : Nat) : Int)))
 wt : ∀ w ∈ b.os,ts[w.f0.toNat]? = some w.f2
 dn : ∀ d ∈ b.ds,d.f2 = 1 → ∃ t,ts[d.f0.toNat]? = some t ∧ t ≤ d.f1
 md : b.made ≤ (b.ds.length : Int)
 qn : b.qs.length ≤ b.ds.length
 sm : ts.length ≤ 20
theorem OdG.len {b : Ar} {ts : List Int} (h : OdG b ts) : b.os.length + b.ds.length = ts.length:=by
 have:=h.nums.length_eq
 simpa using this
theorem keepR_mem {room : Int} {zs : List Av} {ds : List Int} {x z : Av} (h : z ∈ (Ed room zs ds x).1) : z ∈ zs ∨ z = x:=by
 have hev : ∀ n zs ds,(evict room (Dp x) n zs ds).1.Sublist zs:=fun n=>by
  induction n with
  | zero=>exact fun zs ds=>List.Sublist.refl _
  | succ n ih =>
   intro zs ds;unfold evict
   split
   ·exact List.Sublist.refl _
   ·exact (ih _ _).trans (List.eraseIdx_sublist _ _)
 unfold Ed at h
 split at h
 ·unfold kRes at h
  split at h
  ·rcases List.mem_append.1 h with h | h
   ·exact .inl ((hev _ _ _).subset h)
   ·exact .inr (List.mem_singleton.1 h)
  ·exact .inl h
 ·exact .inl h
theorem keepR_rc {room : Int} {zs : List Av} {ds : List Int} {x : Av} (h : rcOk room zs ds = true) : rcOk room (Ed room zs ds x).1 (Ed room zs ds x).2 = true:=by
 unfold Ed
 split
 ·rename_i e
  rw [Bool.and_eq_true] at e;exact e.2
 ·exact h
theorem allB_set {zs : List Int} {lo hi v : Int} {k : Nat} (h : allB zs lo hi = true) (h1 : lo ≤ v) (h2 : v ≤ hi) : allB (zs.set k v) lo hi = true:=by
 unfold allB at *;rw [List.all_eq_true] at *;intro x hx;rcases List.mem_or_eq_of_mem_set hx with h' | rfl
 ·exact h x h'
 ·exact Es h1 h2
theorem allB_snoc {zs : List Int} {lo hi v : Int} (h : allB zs lo hi = true) (h1 : lo ≤ v) (h2 : v ≤ hi) : allB (zs ++ [v]) lo hi = true:=by
 unfold allB at *;rw [List.all_append,h];simp [Es h1 h2]
theorem ds_snoc {t : Int} {ds : List Dw} {d : Dw} (h : ds.all (dnOk t) = true) (h0 : 0 ≤ d.f0 ∧ d.f0 ≤ t - 1) (h1 : 0 ≤ d.f1 ∧ d.f1 ≤ 1000000) (h2 : 0 ≤ d.f2 ∧ d.f2 ≤ 1) : (ds ++ [d]).all (dnOk t) = true:=by
 rw [List.all_append,h];simp only [List.all_cons,List.all_nil,Bool.and_true,Bool.true_and];unfold dnOk;rw [Es h0.1 h0.2,Es h1.1 h1.2,Es h2.1 h2.2]
 rfl
theorem ds_mono {t : Int} {ds : List Dw} (h : ds.all (dnOk t) = true) : ds.all (dnOk (t + 1)) = true:=by
 rw [List.all_eq_true] at *;intro d hd;have:=h d hd;unfold dnOk at *;simp only [Bool.and_eq_true] at *;exact ⟨Es (Cw this.1).1 (by have:=(Cw this.1).2; omega),this.2⟩
theorem range_snoc (n : Nat) : (List.range (n + 1)).map (fun i=>((i : Nat) : Int)) = (List.range n).map (fun i=>((i : Nat) : Int)) ++ [(n : Int)]:=by
 rw [List.range_succ,List.map_append]
 rfl
theorem acc_law {b : Ar} {ts : List Int} (h : OdG b ts) (hs : ts.length < 20) {k m a v : Int} (ho : Da k m a v = true) :
  (bdAcc b k m a v).2 = true ∧ OdG (bdAcc b k m a v).1 (ts ++ [m]) ∧ (bdAcc b k m a v).1.clk = b.clk:=by
 have hl:=h.len;have g:=osG_of h.ok.osv;have htk:=h.tk;have gi:=g.ins (by omega) (by omega) ho;have hroom : b.os.length < 40:=by omega
 have hok : BoOk (accC b k m a v):=by
  rw [Ek hroom];exact ⟨h.ok.clk,h.ok.psn,h.ok.psv,h.ok.lsn,h.ok.lsv,h.ok.made,⟨by simp only; omega,by simp only; omega⟩,gi.ok,gi.n,h.ok.dsn,ds_mono h.ok.dsv,h.ok.rc,h.ok.rsv,h.ok.qsn,h.ok.qsv⟩
 rw [bdAcc_yes (boOk_mk h.ok) ho (boOk_mk hok)];refine ⟨Dt hroom,?_,by rw [Ek hroom]⟩;have hlt : ∀ z : Int,0 ≤ z → z ≤ b.taken - 1 → z.toNat < ts.length:=fun z h0 h1=>by omega
 refine ⟨hok,?_,?_,?_,?_,?_,?_,by simp only [List.length_append,List.length_cons,List.length_nil]; omega⟩
 ·rw [Ek hroom];simp only [List.length_append,List.length_cons,List.length_nil];omega
 ·rw [Ek hroom];simp only [List.length_append,List.length_cons,List.length_nil];rw [range_snoc];refine (List.Perm.append_right _ ((insL_perm _ _ _).map _)).trans ?_;simp only [List.map_cons,List.cons_append];rw [htk];exact (List.Perm.cons _ h.nums).trans (List.perm_append_singleton _ _).symm
 ·rw [Ek hroom];intro w hw;rcases List.mem_cons.1 ((insL_perm _ _ _).mem_iff.1 hw) with rfl | hw
  ·simp only;rw [htk,Int.toNat_natCast,List.getElem?_append_right (Nat.le_refl _)];simp
  ·rw [List.getElem?_append_left (hlt _ (g.all w hw).2.1 (g.all w hw).2.2)];exact h.wt w hw
 ·rw [Ek hroom];intro d hd h1;obtain ⟨t,e,ht⟩:=h.dn d hd h1;refine ⟨t,?_,ht⟩;rw [List.getElem?_append_left (List.getElem?_eq_some_iff.1 e).1];exact e
 ·rw [Ek hroom]; exact h.md
 ·rw [Ek hroom]; exact h.qn
structure PfG (ts : List Int) (x : Az) (k : Int) (c : Ar) : Prop where
 ok : BoOk c
 tk : c.taken = (ts.length : Int)
 ck : c.clk = k
 nums : (x.f0 :: (c.os.map (·.f0) ++ c.ds.map (·.f0))).Perm ((List.range ts.length).map (fun i=>((i : Nat) : Int)))
 wt : ∀ w ∈ c.os,ts[w.f0.toNat]? = some w.f2
 dn : ∀ d ∈ c.ds,d.f2 = 1 → ∃ t,ts[d.f0.toNat]? = some t ∧ t ≤ d.f1
 md : c.made ≤ (c.ds.length : Int) + 1
 qn : c.qs.length ≤ c.ds.length + 1
theorem PfG.len {ts : List Int} {x : Az} {k : Int} {c : Ar} (h : PfG ts x k c) : c.os.length + c.ds.length + 1 = ts.length:=by
 have:=h.nums.length_eq
 simpa using this
theorem PfG.done {ts : List Int} {x : Az} {k : Int} {c : Ar} (h : PfG ts x k c) (hs : ts.length ≤ 20) (hx : 0 ≤ x.f0 ∧ x.f0 ≤ c.taken - 1) (hxt : ts[x.f0.toNat]? = some x.f2) (hd : x.f2 ≤ k) {r : Int} (hr : 0 ≤ r ∧ r ≤ 1) : OdG (doneB c x r) ts:=by
 have hl:=h.len;refine ⟨⟨h.ok.clk,h.ok.psn,h.ok.psv,h.ok.lsn,h.ok.lsv,h.ok.made,h.ok.taken,h.ok.osv,h.ok.osn,?_,ds_snoc h.ok.dsv hx h.ok.clk hr,h.ok.rc,h.ok.rsv,h.ok.qsn,h.ok.qsv⟩,h.tk,?_,h.wt,?_,?_,?_,hs⟩
 ·show (c.ds ++ [_]).length ≤ 5000;rw [List.length_append];simp only [List.length_cons,List.length_nil];omega
 ·show (c.os.map (fun w : Az=>w.f0) ++ (c.ds ++ [(⟨x.f0,c.clk,r⟩ : Dw)]).map (fun d : Dw=>d.f0)).Perm _;rw [List.map_append,← List.append_assoc];exact (List.perm_append_singleton _ _).trans h.nums
 ·intro d hd1 h1;rcases List.mem_append.1 hd1 with hd1 | hd1
  ·exact h.dn d hd1 h1
  ·rw [List.mem_singleton.1 hd1];exact ⟨x.f2,hxt,by show x.f2 ≤ c.clk; rw [h.ck]; exact hd⟩
 ·show c.made ≤ (((c.ds ++ [_]).length : Nat) : Int);rw [List.length_append];have:=h.md;simp only [List.length_cons,List.length_nil];omega
 ·show c.qs.length ≤ (c.ds ++ [_]).length;rw [List.length_append];exact h.qn
theorem r0_ : (0 : Int) ≤ 0 ∧ (0 : Int) ≤ 1:=by decide
theorem r1_ : (0 : Int) ≤ 1 ∧ (1 : Int) ≤ 1:=by decide
theorem perfC_law {ts : List Int} {x : Az} {k : Int} {c : Ar} (h : PfG ts x k c) (hs : ts.length ≤ 20) (hm : c.made ≤ (c.ds.length : Int)) (hq : c.qs.length ≤ c.ds.length) (ho : Da x.f1 x.f2 x.f3 x.f4 = true) :
  PfG ts x k (Ec c x).1 ∧ 0 ≤ (Ec c x).2 ∧ (Ec c x).2 ≤ 1:=by
 have hl:=h.len;have hp:=ordOk_parts ho;have ha:=ordOk_a ho;by_cases h0 : x.f1 = 0
 ·rw [perf_set h0];refine ⟨⟨⟨h.ok.clk,?_,allB_set h.ok.psv hp.2.2.2.1 hp.2.2.2.2,h.ok.lsn,h.ok.lsv,h.ok.made,h.ok.taken,h.ok.osv,h.ok.osn,h.ok.dsn,h.ok.dsv,h.ok.rc,h.ok.rsv,h.ok.qsn,h.ok.qsv⟩,h.tk,h.ck,h.nums,h.wt,h.dn,h.md,h.qn⟩,r1_⟩;show (c.ps.set _ _).length = 8;rw [List.length_set];exact h.ok.psn
 by_cases h1 : x.f1 = 1
 ·cases hsf : c.safe with
  | true=>rw [perf_rec0 h0 h1 hsf]; exact ⟨h,r0_⟩
  | false =>
   rw [perf_rec h0 h1 hsf];have hmd:=h.ok.made;refine ⟨⟨⟨h.ok.clk,h.ok.psn,h.ok.psv,h.ok.lsn,h.ok.lsv,⟨by simp only; omega,by simp only; omega⟩,h.ok.taken,h.ok.osv,h.ok.osn,h.ok.dsn,h.ok.dsv,keepR_rc h.ok.rc,?_,h.ok.qsn,h.ok.qsv⟩,h.tk,h.ck,h.nums,h.wt,h.dn,by simp only; omega,h.qn⟩,r1_⟩;have hr:=h.ok.rsv;rw [List.all_eq_true] at hr ⊢;intro z hz;rcases keepR_mem hz with hz | rfl
   ·have:=hr z hz;simp only [decide_eq_true_eq] at this ⊢;omega
   ·exact Dt (by show c.made < c.made + 1; omega)
 by_cases h2 : x.f1 = 2
 ·rw [perf_safe h0 h1 h2];exact ⟨⟨⟨h.ok.clk,h.ok.psn,h.ok.psv,h.ok.lsn,h.ok.lsv,h.ok.made,h.ok.taken,h.ok.osv,h.ok.osn,h.ok.dsn,h.ok.dsv,h.ok.rc,h.ok.rsv,h.ok.qsn,h.ok.qsv⟩,h.tk,h.ck,h.nums,h.wt,h.dn,h.md,h.qn⟩,r1_⟩
 by_cases h3 : x.f1 = 3
 ·cases hsf : c.safe with
  | true=>rw [perf_file0 h0 h1 h2 h3 hsf]; exact ⟨h,r0_⟩
  | false =>
   rw [perf_file h0 h1 h2 h3 hsf];have e : (c.qs ++ [x.f3]).length = c.qs.length + 1:=by rw [List.length_append]; rfl
   exact ⟨⟨⟨h.ok.clk,h.ok.psn,h.ok.psv,h.ok.lsn,h.ok.lsv,h.ok.made,h.ok.taken,h.ok.osv,h.ok.osn,h.ok.dsn,h.ok.dsv,h.ok.rc,h.ok.rsv,by simp only; omega,allB_snoc h.ok.qsv hp.2.2.1.1 (ha.2.2 h3)⟩,h.tk,h.ck,h.nums,h.wt,h.dn,h.md,by simp only; omega⟩,r1_⟩
 rcases idxO_cases c.os x.f3 with ⟨e,_⟩ | ⟨j,hj,e,ej,_⟩
 ·rw [perf_can0 h0 h1 h2 h3 (by omega)];exact ⟨h,r0_⟩
 ·rw [perf_can h0 h1 h2 h3 e];have g:=osG_of h.ok.osv;have g':=g.sub (List.eraseIdx_sublist c.os j);have gx:=(g.all _ (List.getElem_mem hj)).2;rw [ej] at gx;have e2 : (c.ds ++ [(⟨x.f3,c.clk,0⟩ : Dw)]).length = c.ds.length + 1:=by rw [List.length_append]; rfl
  refine ⟨⟨⟨h.ok.clk,h.ok.psn,h.ok.psv,h.ok.lsn,h.ok.lsv,h.ok.made,h.ok.taken,g'.ok,g'.n,by simp only; omega,ds_snoc h.ok.dsv gx h.ok.clk r0_,h.ok.rc,h.ok.rsv,h.ok.qsn,h.ok.qsv⟩,h.tk,h.ck,?_,fun w hw=>h.wt w ((List.eraseIdx_sublist c.os j).subset hw),?_,by simp only; omega,by simp only; omega⟩,r1_⟩
  ·refine List.Perm.trans (List.Perm.cons _ ?_) h.nums;simp only [List.map_append,List.map_cons,List.map_nil];rw [← List.append_assoc];refine (List.perm_append_singleton _ _).trans ?_;rw [← List.cons_append];refine List.Perm.append_right _ ?_;have:=(erase_perm c.os j hj).map (·.f0);rw [List.map_cons,ej] at this;exact this
  ·intro d hd h1;rcases List.mem_append.1 hd with hd | hd
   ·exact h.dn d hd h1
   ·rw [List.mem_singleton.1 hd] at h1;exact absurd h1 (show ¬ (0 : Int) = 1 by decide)
theorem perf_law {b : Ar} {ts : List Int} {x : Az} {rest : List Az} (h : OdG b ts) (e : b.os = x :: rest) (hd : x.f2 ≤ b.clk) : OdG (Cf (Eh b) x) ts ∧ (Cf (Eh b) x).clk = b.clk:=by
 have g:=osG_of h.ok.osv;have hx:=g.all x (by rw [e]; exact List.mem_cons_self ..);have gt:=g.sub (List.tail_sublist b.os);have hT : PfG ts x b.clk (Eh b):=⟨⟨h.ok.clk,h.ok.psn,h.ok.psv,h.ok.lsn,h.ok.lsv,h.ok.made,h.ok.taken,gt.ok,gt.n,h.ok.dsn,h.ok.dsv,h.ok.rc,h.ok.rsv,h.ok.qsn,h.ok.qsv⟩,h.tk,rfl,by
  have:=h.nums;rw [e] at this;show (x.f0 :: (b.os.tail.map (·.f0) ++ b.ds.map (·.f0))).Perm _;rw [e];exact this,fun w hw=>h.wt w (List.mem_of_mem_tail hw),h.dn,by have:=h.md; show b.made ≤ (b.ds.length : Int) + 1; omega,by have:=h.qn; show b.qs.length ≤ b.ds.length + 1; omega⟩
 have hxt:=h.wt x (by rw [e]; exact List.mem_cons_self ..);obtain ⟨h1,h2⟩:=perfC_law hT h.sm h.md h.qn hx.1;have hD : OdG (perfR (Eh b) x) ts:=h1.done h.sm (by rw [h1.tk,← h.tk]; exact hx.2) hxt hd h2;have hno : idxO (Eh b).os x.f0 < 0:=by
  have hp:=g.pw;rw [e,List.pairwise_cons] at hp;have : idxO (Eh b).os x.f0 = -1:=idxO_none fun j hj he=>by
   have hm : (Eh b).os[j] ∈ rest:=by
    have e2 : (Eh b).os = rest:=by show b.os.tail = rest; rw [e]; rfl
    exact e2 ▸ List.getElem_mem hj
   exact (hp.1 _ hm).1 he.symm
  omega
 have hpk : Em (Eh b) x = true:=by
  unfold Em;rw [boOk_mk hT.ok,hx.1,show inB x.f0 0 ((Eh b).taken - 1) = true from Es hx.2.1 hx.2.2,Dt hno]
  rfl
 rw [bdPerf_yes hpk (boOk_mk hD.ok)];refine ⟨hD,?_⟩;show (Ec (Eh b) x).1.clk = b.clk;exact h1.ck
theorem tickN_law {ts : List Int} : ∀ n (b : Ar),OdG b ts → OdG (tickN n b) ts ∧ (tickN n b).clk = b.clk ∧ (b.os.length ≤ n → ∀ w ∈ (tickN n b).os,b.clk < w.f2)
 | 0,b,h=>⟨h,rfl,fun hl w hw=>by
  rw [tickN,List.eq_nil_of_length_eq_zero (Nat.le_zero.1 hl)] at hw;cases hw⟩
 | n + 1,b,h=>by
  unfold tickN;by_cases hd : dueB b = true
  ·rw [if_pos hd];unfold dueB at hd;simp only [Bool.and_eq_true,decide_eq_true_eq] at hd;obtain ⟨x,rest,e⟩ : ∃ x rest,b.os = x :: rest:=by
    cases hb : b.os with
    | nil=>rw [hb] at hd; exact absurd hd.1 (by decide)
    | cons x r=>exact ⟨x,r,rfl⟩
   have e0 : wAt b.os 0 = x:=by rw [e]; rfl
   rw [e0] at hd ⊢;obtain ⟨h1,h2⟩:=perf_law h e hd.2;obtain ⟨i1,i2,i3⟩:=tickN_law n _ h1;refine ⟨i1,i2.trans h2,fun hl=>?_⟩;rw [← h2];refine i3 ?_;have:=bdPerf_os (Eh b) x;have e3 : (Eh b).os.length = b.os.length - 1:=by unfold Eh; exact List.length_tail
   omega
  ·rw [if_neg hd];refine ⟨h,rfl,fun _ w hw=>?_⟩;unfold dueB at hd;simp only [Bool.and_eq_true,decide_eq_true_eq,not_and] at hd;obtain ⟨j,hj,rfl⟩:=List.mem_iff_getElem.1 hw;have h0:=hd (by omega);rw [Di (by omega)] at h0;by_cases ej : j = 0
   ·subst ej; omega
   ·have:=(List.pairwise_iff_getElem.1 (osG_of h.ok.osv).pw 0 j (by omega) hj (by omega)).2;unfold OrdS at this;omega
theorem tick_law {b : Ar} {ts : List Int} (h : OdG b ts) (hc : b.clk ≤ 1000) : OdG (Ce b) ts ∧ (Ce b).clk = b.clk + 1 ∧ ∀ w ∈ (Ce b).os,b.clk + 1 < w.f2:=by
 have hl:=h.len;have hs:=h.sm;have hmd:=h.md;have hqn:=h.qn;have htk:=h.tk;have hok : Ef b = true:=by
  unfold Ef;rw [boOk_mk h.ok,Df (show ¬ b.clk = 1000000 by omega),Df (show ¬ 60000 < b.made by omega),Df (show ¬ 60000 < b.taken by omega),Df (show ¬ 4900 < ((b.ds.length : Nat) : Int) by omega),Df (show ¬ 4900 < ((b.qs.length : Nat) : Int) by omega)]
  rfl
 have hck:=h.ok.clk;have hN : OdG (nextB b) ts:=⟨⟨⟨by show 0 ≤ b.clk + 1; omega,by show b.clk + 1 ≤ 1000000; omega⟩,h.ok.psn,h.ok.psv,h.ok.lsn,h.ok.lsv,h.ok.made,h.ok.taken,h.ok.osv,h.ok.osn,h.ok.dsn,h.ok.dsv,h.ok.rc,h.ok.rsv,h.ok.qsn,h.ok.qsv⟩,h.tk,h.nums,h.wt,h.dn,h.md,h.qn,h.sm⟩
 obtain ⟨i1,i2,i3⟩:=tickN_law b.os.length _ hN;rw [tick_yes hok];exact ⟨i1,i2,i3 (Nat.le_refl _)⟩
theorem runN_law {b : Ar} {ts : List Int} (h : OdG b ts) (hc : b.clk ≤ 100) : ∀ n : Nat,n ≤ 100 → OdG (runN b n) ts ∧ (runN b n).clk = b.clk + n ∧ (0 < n → ∀ w ∈ (runN b n).os,(runN b n).clk < w.f2)
 | 0,_=>⟨h,by simp [runN],fun h0=>by omega⟩
 | n + 1,hn=>by
  obtain ⟨i1,i2,_⟩:=runN_law h hc n (by omega);obtain ⟨j1,j2,j3⟩:=tick_law i1 (by omega);refine ⟨j1,?_,fun _ w hw=>?_⟩
  ·show (Ce (runN b n)).clk = _;omega
  ·show (Ce (runN b n)).clk < _;have:=j3 w hw;omega
theorem run_law {b : Ar} {ts : List Int} (h : OdG b ts) (hc : b.clk ≤ 100) {n : Nat} (hn : n ≤ 4) : OdG (bdRun b n) ts ∧ (bdRun b n).clk = b.clk + n ∧ (0 < n → ∀ w ∈ (bdRun b n).os,(bdRun b n).clk < w.f2):=by
 rw [← run_yes (Es (show (0 : Int) ≤ (n : Int) by omega) (by omega)) rfl];exact runN_law h hc n (by omega)
theorem new_law : (bdNew 200 []).2 = true ∧ OdG (bdNew 200 []).1 [] ∧ (bdNew 200 []).1.clk = 0:=by
 have h : boOk (newB 200 []) = true:=by decide
 rw [bdNew_yes h];exact ⟨rfl,⟨boOk_parts h,rfl,List.Perm.refl _,(fun w hw=>by cases hw),(fun d hd=>by cases hd),by decide,Nat.le_refl _,by decide⟩,rfl⟩
end Go.Proofs.Ytoccapmoehdohaa
