/- Steps for the walks of boards: new rows of numbers, an element that is written, pointers that are no nil. No condition. -/
import Derived.Test.YtoccapmoehdohaaBdBun
import Derived.Test.YtoccapmoehdohaaBdCopy
import Derived.Test.YtoccapmoehdohaaBdOkS
import Derived.Test.YtoccapmoehdohaaFlowNum
import Derived.Test.YtoccapmoehdohaaFlowDel
namespace Go.Proofs.Ytoccapmoehdohaa
open Go.RowKit _root_.Go.Proofs.Try
theorem Bh {a n m : Nat} (h : a = n) (h2 : n ≤ m) : a ≤ m:=by omega
theorem Bp {P : Program} {o : Oper} {ρ : Operand → Value} {w : World} {K : Value → World → Prop} {x : Operand} {a : Addr} (ho : o.op = .nilCheck x) (hx : ρ x = .pointer (some a)) (h : K (.pointer (some a)) w) : Bs P o ρ w K:=by
 unfold Bs execOp;simp only [ho,hx]
 go_simp
 exact h
theorem flatI_set : ∀ (xs : List Int) (k : Nat) (v : Int),(xs.flatMap cI).set k (.int .i64 v) = (xs.set k v).flatMap cI
 | [],_,_=>rfl
 | x :: xs,0,v=>rfl
 | x :: xs,k + 1,v=>by
  show (Value.int .i64 x :: xs.flatMap cI).set (k + 1) _ = Value.int .i64 x :: (xs.set k v).flatMap cI;rw [List.set_cons_succ,flatI_set xs k v]
theorem g_storeI {P : Program} {o : Oper} {ρ : Operand → Value} {w : World} {K : Value → World → Prop} {x y : Operand} {T e : TypeId} {base b f n c k : Nat} {A : Option Addr} {xs : List Int} {v : Int} (ho : o.op = .store T x y) (hx : ρ x = .pointer (some ⟨b,f + k * 1,none⟩)) (hy : ρ y = .int .i64 v) (hs : ∀ w,(Go.sizeOf T).run P w = .ok 1 w) (hA : A = some ⟨b,f,none⟩)
  (hown : w.ownsRow base e 1 (.slice A n c) n (xs.flatMap cI)) (hk : k < xs.length) (h : ∀ w',w'.ownsRow base e 1 (.slice A n c) n ((xs.set k v).flatMap cI) → w.grownBy w' (A.map (·.block)) → K undef w') : Bs P o ρ w K:=by
 have hn : xs.length = n:=Ck hown;obtain ⟨g,hg⟩:=own_some hown (by omega);rw [hg] at hA;cases hA;subst hg;have hl : (xs.flatMap cI).length = xs.length:=by rw [Cd cI 1 Fo]; omega
 have hc:=(hown.cellAt k (by omega)).trans (List.getElem?_eq_getElem (by omega));have hf:=hown.frozenAt k;have hst : (store ((⟨b,k,none⟩ : Addr).add 0) (.int .i64 v)).run P w = .ok () (w.setCell ⟨b,k,none⟩ (.int .i64 v)):=by
  rw [Addr.add_lit,Nat.add_zero,run_store P w _ _ _ rfl,hc];simp [hf]
 have hrun : (storeVar T ⟨b,k,none⟩ (.int .i64 v)).run P w = .ok () (w.setCell ⟨b,k,none⟩ (.int .i64 v)):=by
  simp only [storeVar,show (Value.int IntKind.i64 v).cells = #[.int .i64 v] from rfl,Sem.run_bind,hs,Result.andThen_ok,storeCells,List.size_toArray,List.length_cons,List.length_nil,Nat.zero_add,ne_eq,not_true_eq_false,if_false,hst]
  rfl
 obtain ⟨h1,h2⟩:=hown.stored k (.int .i64 v);rw [flatI_set] at h1;unfold Bs execOp;rw [Nat.zero_add,Nat.mul_one] at hx;simp only [ho,hx,hy,Instr.storeAt,Instr.sureAddr,Sem.run_bind,Sem.run_pure,Result.andThen_ok,hrun];exact h _ h1 h2
end Go.Proofs.Ytoccapmoehdohaa
namespace Go.Proofs.Ytoccapmoehdohaa
open Go.RowKit _root_.Go.Proofs.Try
set_option linter.unusedSimpArgs false
set_option linter.unusedVariables false
theorem g_call_k {P : Program} {o : Oper} {ρ : Operand → Value} {w : World} {K : Value → World → Prop} {f : FuncId} {args : Array Value} {os : Array Operand} {ts : Array TypeId} (ho : o.op = .call { callee:=.value (.func f),args:=os,argTypes:=ts }) (hρ : ρ (.func f) = .func (.func f) #[] #[]) (hf : ∀ (args : Array Value) (w : World),(callFunc f args).run P w = .ok (.enter f args) w)
  (ha : os.map ρ = args) (h : ∀ K' : Value → World → Prop,(∀ v w',K v w' → K' v w') → Calls P f args w (fun e w''=>∃ v,e = .returned v ∧ K' v w'')) : Bs P o ρ w K :=
 Au ho hρ hf ha (h K fun _ _ k=>k)
theorem l_nilCheck {P : Program} {o : Oper} {ρ : Operand → Value} {w : World} {x : Operand} {a : Addr} (ho : o.op = .nilCheck x) (hx : ρ x = .pointer (some a)) : (execOp ρ o).run P w = .ok (.value (.pointer (some a))) w:=by
 unfold execOp;simp only [ho,hx]
 rfl
set_option maxRecDepth 100000 in
set_option maxHeartbeats 4000000 in
theorem l05Index_any {q : Nat} {c0 c1 c2 c3 c5 c6 c7 c8 c9 c10 c11 : Value} {A : Option Addr} {n c : Nat} {os : List Bt} {m : Int} (w : World) (hn : os.length = n) (hb : n ≤ 1048577) (h_q : w.heap[q]? = some (.cells #[c0,c1,c2,c3,.slice A n c,c5,c6,c7,c8,c9,c10,c11] 32 (0,0))) (hr_o : Rd w 5 A n (os.flatMap Bd)) :
  Calls Try.prog 82 #[.pointer (some ⟨q,0,none⟩),.int .i64 m] w fun e w'=>e = .returned (.int .i64 (idxO os m)) ∧ Below w.heap.size w w':=by
 refine enter 26 func82 rfl rfl (Nat.le_of_ble_eq_true rfl) ?_;intro a0 hs hargs;have s0 : a0.eval (.tmp 0) = .pointer (some ⟨q,0,none⟩):=hargs 0 _ rfl;have s1 : a0.eval (.tmp 1) = .int .i64 m:=hargs 1 _ rfl;clear hargs;have hB : Below w.heap.size w w:=Below.refl _ _;refine Wq fun K1 hK1=>Wr (Qv hs (Aj rfl rfl ?_))
 intro a1 p1;have s4 : a1.eval (.tmp 4) = .int .i64 0:=p1.v;refine Wn ?_;replace s0:=p1.k s0;replace s1:=p1.k s1;refine hK1 _ _ ?_;refine Wq fun K2 hK2=>?_;refine Wq fun K3 hK3=>Wr (Qv p1.s (Aj rfl rfl ?_))
 intro a2 p2;have s5 : a2.eval (.tmp 5) = .int .i64 0:=p2.v;refine Wn ?_;replace s0:=p2.k s0;replace s1:=p2.k s1;replace s4:=p2.k s4;refine hK3 _ _ ?_;refine wp_block ?_;refine wp_loop (fun a wr=>∃ (k : Nat),(St 26 a) ∧ (a.eval (.tmp 0) = .pointer (some ⟨q,0,none⟩)) ∧ (a.eval (.tmp 1) = .int .i64 m) ∧ (a.eval (.tmp 4) = .int .i64 0) ∧ (a.eval (.tmp 5) = .int .i64 ((k : Nat) : Int)) ∧ (w = wr) ∧ (k ≤ os.length) ∧ (∀ j (_ : j < k) (h : j < os.length),os[j].f0 ≠ m)) (fun a _=>os.length - (intOf (a.eval (.tmp 5))).toNat) (⟨0,p2.s,s0,s1,s4,s5,rfl,Nat.zero_le _,(fun j hj=>by omega)⟩) ?_;intro a3 w' hIv;obtain ⟨k,hs,s0,s1,s4,s5,rfl,hk,hno⟩:=hIv;have mu5:=s5;refine Wq fun K6 hK6=>?_;refine Wq fun K7 hK7=>Wr (Qv hs (Ag rfl s5 ?_))
 intro a4 p4;refine Qv p4.s (Ag rfl (p4.k s0) ?_);intro a5 p5;refine Qv p5.s (Bp rfl p5.v ?_);intro a6 p6;refine Qv p6.s (Af (r:=4) rfl p6.v underlying32 rfl sizeOf26 rfl rfl ?_);intro a7 p7;refine Qv p7.s (Al rfl p7.v isAgg26 (Ah h_q rfl) ?_);intro a8 p8;refine Qv p8.s (Dx (e:=_) rfl underlying26 p8.v ?_);intro a9 p9;refine Qv p9.s (Cx rfl (p9.k (p8.k (p7.k (p6.k (p5.k p4.v))))) p9.v ?_);intro a10 p10;refine Wn ?_;have kc3:=(((((((Kps.nil a3).u p4).u p5).u p6).u p7).u p8).u p9).u p10;replace s0:=kc3.k s0;replace s1:=kc3.k s1;replace s4:=kc3.k s4;replace s5:=kc3.k s5;replace s12:=p10.v;refine hK7 _ _ ?_;by_cases hc8 : ((k : Nat) : Int) < ((n : Nat) : Int)
 ·replace s12:=Vb s12 (Dt hc8);refine Bb s12 ?_;refine wp_skip ?_;refine hK6 _ _ ?_;refine Wq fun K9 hK9=>?_;refine wp_block ?_;refine Wq fun K10 hK10=>?_;have hlt : k < os.length:=by omega
  refine Wr (Qv p10.s (Ag rfl s0 ?_));intro a11 p11;refine Qv p11.s (Bp rfl p11.v ?_);intro a12 p12;refine Qv p12.s (Af (r:=4) rfl p12.v underlying32 rfl sizeOf26 rfl rfl ?_);intro a13 p13;refine Qv p13.s (Al rfl p13.v isAgg26 (Ah h_q rfl) ?_);intro a14 p14;refine Qv p14.s (Ag rfl (p14.k (p13.k (p12.k (p11.k s5)))) ?_);intro a15 p15;obtain ⟨b11,o12,hA13,hl_hc14,hc14⟩:=Rd.get Bk (hr_o.below hB) (Eq.symm hn) (i:=k) (by omega);refine Qv p15.s (Cg (r:=o12 + k * 5) (k:=k) rfl ((p15.k p14.v).trans (Bu hA13)) p15.v underlying26 sizeOf45 (by omega) rfl ?_);intro a16 p16;refine Qv p16.s (Af (r:=o12 + k * 5) rfl p16.v underlying45 rfl sizeOf3 rfl rfl ?_);intro a17 p17;refine Qv p17.s (Al rfl p17.v isAgg3 (by first | exact hc14 0 _ (by decide) rfl | (rw [Nat.add_assoc]; exact hc14 0 _ (by decide) rfl)) ?_);intro a18 p18;refine Qv p18.s (Ag rfl (p18.k (p17.k (p16.k (p15.k (p14.k (p13.k (p12.k (p11.k s1)))))))) ?_);intro a19 p19;refine Qv p19.s (Fa rfl (p19.k p18.v) p19.v ?_);intro a20 p20;refine Wn ?_;have kc10:=((((((((((Kps.nil a10).u p11).u p12).u p13).u p14).u p15).u p16).u p17).u p18).u p19).u p20;replace s0:=kc10.k s0;replace s1:=kc10.k s1;replace s4:=kc10.k s4;replace s5:=kc10.k s5;replace s12:=kc10.k s12;replace s24:=p20.v;refine hK10 _ _ ?_;by_cases he : os[k].f0 = m
  ·replace s24:=Vb s24 (Dt he);refine Bb s24 ?_;refine Wq fun K15 hK15=>Wr (Qv p20.s (Ag rfl s5 ?_))
   intro a21 p21;refine Qv p21.s (Aj rfl p21.v ?_);intro a22 p22;refine Wn ?_;replace s0:=p22.k (p21.k s0);replace s1:=p22.k (p21.k s1);replace s4:=p22.v;replace s5:=p22.k (p21.k s5);replace s12:=p22.k (p21.k s12);replace s24:=p22.k (p21.k s24);refine hK15 _ _ ?_;refine wp_ret ?_
   try dsimp only [Exit.then,Exit.inBlock]
   refine ret1 p22.s results82 (Bi s4) ?_;exact ⟨by rw [idxO_at hlt he (fun j hj=>hno j hj (by omega))],hB⟩
  replace s24:=Vb s24 (Df he);refine Av s24 ?_;refine wp_skip ?_;refine hK9 _ _ ?_;refine Wr (Qv p20.s (Ag rfl s5 ?_));intro a21 p21;refine Qv p21.s (Dh (r:=((k + 1 : Nat) : Int)) rfl p21.v rfl (by omega) (by omega) ?_);intro a22 p22;refine Qv p22.s (Aj rfl p22.v ?_);intro a23 p23;refine Wn ?_;have kc20:=(((Kps.nil a20).u p21).u p22).u p23;replace s0:=kc20.k s0;replace s1:=kc20.k s1;replace s4:=kc20.k s4;replace s5:=p23.v;replace s12:=kc20.k s12;replace s24:=kc20.k s24;refine show _ ∧ _ from ⟨⟨k + 1,p23.s,s0,s1,s4,s5,rfl,(by omega),(fun j hj h8=>(Nat.lt_succ_iff_lt_or_eq.1 hj).elim (fun h9=>hno j h9 h8) (fun h9=>by subst h9; exact he))⟩,?_⟩
  show os.length - (intOf (a23.eval (.tmp 5))).toNat < os.length - (intOf (a3.eval (.tmp 5))).toNat;rw [s5,mu5];simp only [intOf];omega
 replace s12:=Vb s12 (Df hc8);refine Av s12 ?_;refine wp_exit ?_;refine hK2 _ _ ?_;refine Wq fun K16 hK16=>Wr (Qv p10.s (Aj rfl rfl ?_))
 intro a11 p11;have s4 : a11.eval (.tmp 4) = .int .i64 (-1):=p11.v;refine Wn ?_;refine hK16 _ _ ?_;refine wp_ret ?_
 try dsimp only [Exit.then,Exit.inBlock]
 refine ret1 p11.s results82 (Bi s4) ?_;exact ⟨by rw [idxO_none (fun j hj=>hno j (by omega) hj)],hB⟩
end Go.Proofs.Ytoccapmoehdohaa
