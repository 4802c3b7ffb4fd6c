/- Contract: the reference's index of the record that goes first. No condition. -/
import Derived.Test.YtoccapmoehdohaaKeepLaw
import Derived.Test.YtoccapmoehdohaaFlow
import Derived.Test.YtoccapmoehdohaaFlowMem
namespace Go.Proofs.Ytoccapmoehdohaa
set_option linter.unusedSimpArgs false
set_option linter.unusedVariables false
open Go.RowKit _root_.Go.Proofs.Try
theorem lbTo_a {zs : List Aw} {p b : Int} {k : Nat} (hk : k < zs.length) (hb : lbTo zs p k = b) (h1 : zs[k].f1 < p) (h2 : b < 0) : lbTo zs p (k + 1) = ((k : Nat) : Int):=by
 subst hb;unfold lbTo;rw [show zs.getD k default = zs[k] from by simp [hk],if_pos ⟨h1,.inl h2⟩]
theorem lbTo_b {zs : List Aw} {p : Int} {k m : Nat} (hk : k < zs.length) (hb : lbTo zs p k = ((m : Nat) : Int)) (hm : m < zs.length) (h1 : zs[k].f1 < p) (h2 : zs[k].f1 < zs[m].f1) : lbTo zs p (k + 1) = ((k : Nat) : Int):=by
 unfold lbTo;rw [show zs.getD k default = zs[k] from by simp [hk],hb,show zs.getD (((m : Nat) : Int)).toNat default = zs[m] from by simp [hm],if_pos ⟨h1,.inr h2⟩]
theorem lbTo_c {zs : List Aw} {p b : Int} {k : Nat} (hk : k < zs.length) (hb : lbTo zs p k = b) (h1 : ¬ zs[k].f1 < p) : lbTo zs p (k + 1) = b:=by
 subst hb;show (if _ then _ else _) = _;rw [show zs.getD k default = zs[k] from by simp [hk],if_neg (fun h=>h1 h.1)]
theorem lbTo_d {zs : List Aw} {p : Int} {k m : Nat} (hk : k < zs.length) (hb : lbTo zs p k = ((m : Nat) : Int)) (hm : m < zs.length) (h2 : ¬ zs[k].f1 < zs[m].f1) : lbTo zs p (k + 1) = ((m : Nat) : Int):=by
 show (if _ then _ else _) = _;rw [show zs.getD k default = zs[k] from by simp [hk],hb,show zs.getD (((m : Nat) : Int)).toNat default = zs[m] from by simp [hm],if_neg (fun h=>by rcases h.2 with h3 | h3 <;> omega)]
theorem lbTo_lt {zs : List Aw} {p : Int} {k m : Nat} (hk : k ≤ zs.length) (hb : lbTo zs p k = ((m : Nat) : Int)) (h0 : 0 < zs.length) : m < zs.length:=by
 rcases lbTo_step (p:=p) h0 k hk with ⟨h1,_⟩ | ⟨h1,hl,_⟩
 ·omega
 ·have : m = Cl zs k:=by omega
  rw [this];exact hl
set_option maxRecDepth 100000 in
set_option maxHeartbeats 4000000 in
theorem l05Least_at {A : Option Addr} {n c : Nat} {zs : List Aw} {p v : Int} (w : World) (hn : zs.length = n) (hm : n ≤ 1048577) (hv : lbTo zs p n = v) (hr_z : Rd w 4 A n (zs.flatMap Ax)) :
  Calls Try.prog 119 #[.slice A n c,.int .i64 p] w fun e w'=>e = .returned (.int .i64 v) ∧ Below w.heap.size w w':=by
 subst hn;refine enter 39 func119 rfl rfl (Nat.le_of_ble_eq_true rfl) ?_;intro a0 hs hargs;have s0 : a0.eval (.tmp 0) = .slice A zs.length c:=hargs 0 _ rfl;have s1 : a0.eval (.tmp 1) = .int .i64 p:=hargs 1 _ rfl;clear hargs;have hB : Below w.heap.size w w:=Below.refl _ _;refine Wq fun K1 hK1=>Wr (Qv hs (Aj rfl rfl ?_))
 intro a1 p1;have s4 : a1.eval (.tmp 4) = .int .i64 0:=p1.v;refine Wn ?_;replace s0:=p1.k s0;replace s1:=p1.k s1;refine hK1 _ _ ?_;refine Wq fun K2 hK2=>Wr (Qv p1.s (Aj rfl rfl ?_))
 intro a2 p2;have s5 : a2.eval (.tmp 5) = .int .i64 (-1):=p2.v;refine Wn ?_;replace s0:=p2.k s0;replace s1:=p2.k s1;replace s4:=p2.k s4;refine hK2 _ _ ?_;refine Wq fun K3 hK3=>?_;refine Wq fun K4 hK4=>Wr (Qv p2.s (Aj rfl rfl ?_))
 intro a3 p3;have s6 : a3.eval (.tmp 6) = .int .i64 0:=p3.v;refine Wn ?_;replace s0:=p3.k s0;replace s1:=p3.k s1;replace s4:=p3.k s4;replace s5:=p3.k s5;refine hK4 _ _ ?_;refine wp_block ?_;refine wp_loop (fun a wr=>∃ (k : Nat) (b : Int),(St 39 a) ∧ (a.eval (.tmp 0) = .slice A zs.length c) ∧ (a.eval (.tmp 1) = .int .i64 p) ∧ (a.eval (.tmp 4) = .int .i64 0) ∧ (a.eval (.tmp 5) = .int .i64 b) ∧ (a.eval (.tmp 6) = .int .i64 ((k : Nat) : Int)) ∧ (Below w.heap.size w wr) ∧ (k ≤ zs.length) ∧ (lbTo zs p k = b)) (fun a _=>zs.length - (intOf (a.eval (.tmp 6))).toNat) (⟨0,(-1),p3.s,s0,s1,s4,s5,s6,hB,Nat.zero_le _,rfl⟩) ?_;intro a4 w6 hIv;obtain ⟨k,b,hs,s0,s1,s4,s5,s6,hB,hk,hb⟩:=hIv;have mu7:=s6;by_cases hneg : b < 0
 ·refine Wq fun K8 hK8=>?_;refine Wq fun K9 hK9=>Wr (Qv hs (Ag rfl s6 ?_))
  intro a5 p5;refine Qv p5.s (Ag rfl (p5.k s0) ?_);intro a6 p6;refine Qv p6.s (Dx (e:=_) rfl underlying28 p6.v ?_);intro a7 p7;refine Qv p7.s (Cx rfl (p7.k (p6.k p5.v)) p7.v ?_);intro a8 p8;refine Wn ?_;have kc4:=((((Kps.nil a4).u p5).u p6).u p7).u p8;replace s0:=kc4.k s0;replace s1:=kc4.k s1;replace s4:=kc4.k s4;replace s5:=kc4.k s5;replace s6:=kc4.k s6;replace s10:=p8.v;refine hK9 _ _ ?_;by_cases hc10 : ((k : Nat) : Int) < ((zs.length : Nat) : Int)
  ·replace s10:=Vb s10 (Dt hc10);refine Bb s10 ?_;refine wp_skip ?_;refine hK8 _ _ ?_;refine Wq fun K11 hK11=>?_;refine wp_block ?_;refine Wq fun K12 hK12=>?_;have hlt : k < zs.length:=by omega
   have hs:=p8.s;by_cases hp : zs[k].f1 < p
   ·have hlt : k < zs.length:=by omega
    obtain ⟨b17,o18,hA19,hl_hc20,hc20⟩:=Rd.get Be (hr_z.below hB) rfl (i:=k) (by omega);refine Bx (n:=39) [] [] [] (fun k_ v_ _wx=>match k_ with | 0=>v_ = .slice A zs.length c | 1=>v_ = .int .i64 ((k : Nat) : Int) | 2=>v_ = .pointer (some ⟨b17,o18 + k * 4,none⟩) | 3=>v_ = .pointer (some ⟨b17,o18 + k * 4 + 1,none⟩) | 4=>v_ = .int .i64 (zs[k].f1) | 5=>v_ = .int .i64 p | 6=>v_ = .bool true | 7=>v_ = .bool true | 8=>v_ = .int .i64 b | 9=>v_ = .bool true | 10=>v_ = .bool true | 22=>v_ = .bool true | 23=>v_ = .bool true | _=>True) (by kernel_rfl) (by kernel_rfl) (by kernel_rfl) (by kernel_rfl) hs.size ?_ ?_ ?_
    ·intro i v wa wb hb hr;rcases i with _ | _ | _ | _ | _ | _ | _ | _ | _ | _ | _ | _ | _ | _ | _ | _ | _ | _ | _ | _ | _ | _ | _ | _ | i
     ·exact hr
     ·exact hr
     ·exact hr
     ·exact hr
     ·exact hr
     ·exact hr
     ·exact hr
     ·exact hr
     ·exact hr
     ·exact hr
     ·exact hr
     ·trivial
     ·trivial
     ·trivial
     ·trivial
     ·trivial
     ·trivial
     ·trivial
     ·trivial
     ·trivial
     ·trivial
     ·trivial
     ·exact hr
     ·exact hr
     ·trivial
    ·refine Ai rfl rfl ?_ (Ai rfl rfl ?_ (Ai rfl rfl ?_ (Ai rfl rfl ?_ (Ai rfl rfl ?_ (Ai rfl rfl ?_ (Ai rfl rfl ?_ (Ai rfl rfl ?_ (Ar rfl 7 true 20 rfl rfl rfl (fun v w h=>h) ?_ (Ar rfl 7 true 20 rfl rfl rfl (fun v w h=>h) ?_ (Ar rfl 7 true 20 rfl rfl rfl (fun v w h=>h) ?_ (Ao 10 false 23 rfl rfl rfl (fun v w h=>Or.inl h) (fun w=>trivial) (Ao 10 false 23 rfl rfl rfl (fun v w h=>Or.inl h) (fun w=>trivial) (Ao 10 false 23 rfl rfl rfl (fun v w h=>Or.inl h) (fun w=>trivial) (Ao 10 false 23 rfl rfl rfl (fun v w h=>Or.inl h) (fun w=>trivial) (Ao 10 false 23 rfl rfl rfl (fun v w h=>Or.inl h) (fun w=>trivial) (Ao 10 false 23 rfl rfl rfl (fun v w h=>Or.inl h) (fun w=>trivial) (Ao 10 false 23 rfl rfl rfl (fun v w h=>Or.inl h) (fun w=>trivial) (Ao 10 false 23 rfl rfl rfl (fun v w h=>Or.inl h) (fun w=>trivial) (Ao 10 false 23 rfl rfl rfl (fun v w h=>Or.inl h) (fun w=>trivial) (Ao 10 false 23 rfl rfl rfl (fun v w h=>Or.inl h) (fun w=>trivial) (Ao 10 false 23 rfl rfl rfl (fun v w h=>Or.inl h) (fun w=>trivial) (Ar rfl 7 true 20 rfl rfl rfl (fun v w h=>h) ?_ (Ai rfl rfl ?_ (Dm))))))))))))))))))))))))
     ·intro xv_ wx ρ hρ hwx hd K hK;have e0 : ρ (.tmp 0) = .slice A zs.length c:=(hρ.inn 0 rfl).trans s0;refine Ag rfl e0 ?_;exact Hk hK
     ·intro xv_ wx ρ hρ hwx hd K hK;have e6 : ρ (.tmp 6) = .int .i64 ((k : Nat) : Int):=(hρ.inn 6 rfl).trans s6;refine Ag rfl e6 ?_;exact Hk hK
     ·intro xv_ wx ρ hρ hwx hd K hK;have e13:=(O2 hρ hs 0 13).trans (hd 0 rfl);have e14:=(O2 hρ hs 1 14).trans (hd 1 rfl);refine Cg (r:=o18 + k * 4) (k:=k) rfl (e13.trans (Bu hA19)) e14 underlying28 sizeOf47 (by omega) rfl ?_;exact Hk hK
     ·intro xv_ wx ρ hρ hwx hd K hK;have e15:=(O2 hρ hs 2 15).trans (hd 2 rfl);refine Af (r:=o18 + k * 4 + 1) rfl e15 underlying47 rfl sizeOf3 rfl rfl ?_;exact Hk hK
     ·intro xv_ wx ρ hρ hwx hd K hK;have e16:=(O2 hρ hs 3 16).trans (hd 3 rfl);have hc20:=Cp hc20 hwx hl_hc20;refine Al rfl e16 isAgg3 (by first | exact hc20 1 _ (by decide) rfl | (rw [Nat.add_assoc]; exact hc20 1 _ (by decide) rfl)) ?_;exact Hk hK
     ·intro xv_ wx ρ hρ hwx hd K hK;have e1 : ρ (.tmp 1) = .int .i64 p:=(hρ.inn 1 rfl).trans s1;refine Ag rfl e1 ?_;exact Hk hK
     ·intro xv_ wx ρ hρ hwx hd K hK;have e17:=(O2 hρ hs 4 17).trans (hd 4 rfl);have e18:=(O2 hρ hs 5 18).trans (hd 5 rfl);refine Cx rfl e17 e18 ?_;exact hK _ _ Br (congrArg Value.bool (Dt hp))
     ·intro xv_ wx ρ hρ hwx hd K hK;have e19:=(O2 hρ hs 6 19).trans (hd 6 rfl);refine Ag rfl e19 ?_;exact Hk hK
     ·intro xv_ wx ρ hρ hwx hd K hK;have e5 : ρ (.tmp 5) = .int .i64 b:=(hρ.inn 5 rfl).trans s5;refine Ag rfl e5 ?_;exact Hk hK
     ·intro xv_ wx ρ hρ hwx hd K hK;have e21:=(O2 hρ hs 8 21).trans (hd 8 rfl);refine Cx rfl e21 ((hρ.cst _)) ?_;exact hK _ _ Br (congrArg Value.bool (Dt hneg))
     ·intro xv_ wx ρ hρ hwx hd K hK;have e22:=(O2 hρ hs 9 22).trans (hd 9 rfl);refine Ag rfl e22 ?_;exact Hk hK
     ·intro xv_ wx ρ hρ hwx hd K hK;have e23:=(O2 hρ hs 10 23).trans (hd 10 rfl);refine Ay rfl e23 ((hρ.cst _)) ?_;exact Hk hK
     ·intro xv_ wx ρ hρ hwx hd K hK;have e20:=(O2 hρ hs 7 20).trans (hd 7 rfl);have e35:=(O2 hρ hs 22 35).trans (hd 22 rfl);refine Ay rfl e20 e35 ?_;exact Hk hK
    ·intro x0_ w21 hb_w21 hr0;replace hB:=hB.trans (hb_w21.mono hB.size);clear hb_w21;intro xv_ a9 hρ hsz hdf qx_ ql_ qk_ qlk_;replace s0 : a9.eval (.tmp 0) = .slice A zs.length c:=(hρ.inn 0 rfl).trans s0;replace s1 : a9.eval (.tmp 1) = .int .i64 p:=(hρ.inn 1 rfl).trans s1;replace s4 : a9.eval (.tmp 4) = .int .i64 0:=(hρ.inn 4 rfl).trans s4;replace s5 : a9.eval (.tmp 5) = .int .i64 b:=(hρ.inn 5 rfl).trans s5;replace s6 : a9.eval (.tmp 6) = .int .i64 ((k : Nat) : Int):=(hρ.inn 6 rfl).trans s6;replace s10 : a9.eval (.tmp 10) = .bool true:=(hρ.inn 10 rfl).trans s10;have s36 : a9.eval (.tmp 36) = .bool true:=(hρ.out 23 36 rfl (by rw [hs.size]; decide)).trans ((qx_ 23 (by decide) rfl rfl).trans (hr0 23 (by decide) rfl rfl));replace hs : St 39 a9:=⟨hsz.trans hs.size,hdf.trans hs.nodef⟩
     clear hρ hsz hdf qx_ ql_ qk_ qlk_;refine hK12 _ _ ?_;refine Bb s36 ?_;refine Wr (Qv hs (Ag rfl s6 ?_));intro a10 p10;refine Qv p10.s (Aj rfl p10.v ?_);intro a11 p11;refine Wn ?_;replace s0:=p11.k (p10.k s0);replace s1:=p11.k (p10.k s1);replace s4:=p11.k (p10.k s4);replace s5:=p11.v;replace s6:=p11.k (p10.k s6);replace s10:=p11.k (p10.k s10);replace s36:=p11.k (p10.k s36);refine hK11 _ _ ?_;refine Wr (Qv p11.s (Ag rfl s6 ?_));intro a12 p12;refine Qv p12.s (Dh (r:=((k + 1 : Nat) : Int)) rfl p12.v rfl (by omega) (by omega) ?_);intro a13 p13;refine Qv p13.s (Aj rfl p13.v ?_);intro a14 p14;refine Wn ?_;have kc11:=(((Kps.nil a11).u p12).u p13).u p14;replace s0:=kc11.k s0;replace s1:=kc11.k s1;replace s4:=kc11.k s4;replace s5:=kc11.k s5;replace s6:=p14.v;replace s10:=kc11.k s10;replace s36:=kc11.k s36;refine show _ ∧ _ from ⟨⟨k + 1,((k : Nat) : Int),p14.s,s0,s1,s4,s5,s6,hB,by omega,lbTo_a hlt hb hp hneg⟩,?_⟩
     show zs.length - (intOf (a14.eval (.tmp 6))).toNat < zs.length - (intOf (a4.eval (.tmp 6))).toNat;rw [s6,mu7];simp only [intOf];omega
   have hlt : k < zs.length:=by omega
   obtain ⟨b22,o23,hA24,hl_hc25,hc25⟩:=Rd.get Be (hr_z.below hB) rfl (i:=k) (by omega);refine Bx (n:=39) [] [] [] (fun k_ v_ _wx=>match k_ with | 0=>v_ = .slice A zs.length c | 1=>v_ = .int .i64 ((k : Nat) : Int) | 2=>v_ = .pointer (some ⟨b22,o23 + k * 4,none⟩) | 3=>v_ = .pointer (some ⟨b22,o23 + k * 4 + 1,none⟩) | 4=>v_ = .int .i64 (zs[k].f1) | 5=>v_ = .int .i64 p | 6=>v_ = .bool false | 7=>v_ = .bool false | 10=>v_ = undef | 23=>v_ = .bool false | _=>True) (by kernel_rfl) (by kernel_rfl) (by kernel_rfl) (by kernel_rfl) hs.size ?_ ?_ ?_
   ·intro i v wa wb hb hr;rcases i with _ | _ | _ | _ | _ | _ | _ | _ | _ | _ | _ | _ | _ | _ | _ | _ | _ | _ | _ | _ | _ | _ | _ | _ | i
    ·exact hr
    ·exact hr
    ·exact hr
    ·exact hr
    ·exact hr
    ·exact hr
    ·exact hr
    ·exact hr
    ·trivial
    ·trivial
    ·exact hr
    ·trivial
    ·trivial
    ·trivial
    ·trivial
    ·trivial
    ·trivial
    ·trivial
    ·trivial
    ·trivial
    ·trivial
    ·trivial
    ·trivial
    ·exact hr
    ·trivial
   ·refine Ai rfl rfl ?_ (Ai rfl rfl ?_ (Ai rfl rfl ?_ (Ai rfl rfl ?_ (Ai rfl rfl ?_ (Ai rfl rfl ?_ (Ai rfl rfl ?_ (Ai rfl rfl ?_ (Ao 7 true 20 rfl rfl rfl (fun v w h=>Or.inl h) (fun w=>trivial) (Ao 7 true 20 rfl rfl rfl (fun v w h=>Or.inl h) (fun w=>trivial) (Ao 7 true 20 rfl rfl rfl (fun v w h=>Or.inl h) (fun w=>rfl) (Ao 10 false 23 rfl rfl rfl (fun v w h=>Or.inr h) (fun w=>trivial) (Ao 10 false 23 rfl rfl rfl (fun v w h=>Or.inr h) (fun w=>trivial) (Ao 10 false 23 rfl rfl rfl (fun v w h=>Or.inr h) (fun w=>trivial) (Ao 10 false 23 rfl rfl rfl (fun v w h=>Or.inr h) (fun w=>trivial) (Ao 10 false 23 rfl rfl rfl (fun v w h=>Or.inr h) (fun w=>trivial) (Ao 10 false 23 rfl rfl rfl (fun v w h=>Or.inr h) (fun w=>trivial) (Ao 10 false 23 rfl rfl rfl (fun v w h=>Or.inr h) (fun w=>trivial) (Ao 10 false 23 rfl rfl rfl (fun v w h=>Or.inr h) (fun w=>trivial) (Ao 10 false 23 rfl rfl rfl (fun v w h=>Or.inr h) (fun w=>trivial) (Ao 10 false 23 rfl rfl rfl (fun v w h=>Or.inr h) (fun w=>trivial) (Ao 10 false 23 rfl rfl rfl (fun v w h=>Or.inr h) (fun w=>trivial) (Ao 7 true 20 rfl rfl rfl (fun v w h=>Or.inl h) (fun w=>trivial) (Ai rfl rfl ?_ (Dm))))))))))))))))))))))))
    ·intro xv_ wx ρ hρ hwx hd K hK;have e0 : ρ (.tmp 0) = .slice A zs.length c:=(hρ.inn 0 rfl).trans s0;refine Ag rfl e0 ?_;exact Hk hK
    ·intro xv_ wx ρ hρ hwx hd K hK;have e6 : ρ (.tmp 6) = .int .i64 ((k : Nat) : Int):=(hρ.inn 6 rfl).trans s6;refine Ag rfl e6 ?_;exact Hk hK
    ·intro xv_ wx ρ hρ hwx hd K hK;have e13:=(O2 hρ hs 0 13).trans (hd 0 rfl);have e14:=(O2 hρ hs 1 14).trans (hd 1 rfl);refine Cg (r:=o23 + k * 4) (k:=k) rfl (e13.trans (Bu hA24)) e14 underlying28 sizeOf47 (by omega) rfl ?_;exact Hk hK
    ·intro xv_ wx ρ hρ hwx hd K hK;have e15:=(O2 hρ hs 2 15).trans (hd 2 rfl);refine Af (r:=o23 + k * 4 + 1) rfl e15 underlying47 rfl sizeOf3 rfl rfl ?_;exact Hk hK
    ·intro xv_ wx ρ hρ hwx hd K hK;have e16:=(O2 hρ hs 3 16).trans (hd 3 rfl);have hc25:=Cp hc25 hwx hl_hc25;refine Al rfl e16 isAgg3 (by first | exact hc25 1 _ (by decide) rfl | (rw [Nat.add_assoc]; exact hc25 1 _ (by decide) rfl)) ?_;exact Hk hK
    ·intro xv_ wx ρ hρ hwx hd K hK;have e1 : ρ (.tmp 1) = .int .i64 p:=(hρ.inn 1 rfl).trans s1;refine Ag rfl e1 ?_;exact Hk hK
    ·intro xv_ wx ρ hρ hwx hd K hK;have e17:=(O2 hρ hs 4 17).trans (hd 4 rfl);have e18:=(O2 hρ hs 5 18).trans (hd 5 rfl);refine Cx rfl e17 e18 ?_;exact hK _ _ Br (congrArg Value.bool (Df hp))
    ·intro xv_ wx ρ hρ hwx hd K hK;have e19:=(O2 hρ hs 6 19).trans (hd 6 rfl);refine Ag rfl e19 ?_;exact Hk hK
    ·intro xv_ wx ρ hρ hwx hd K hK;have e20:=(O2 hρ hs 7 20).trans (hd 7 rfl);refine Bl rfl e20 ((hρ.cst _)) ?_;exact Hk hK
   ·intro x0_ w26 hb_w26 hr0;replace hB:=hB.trans (hb_w26.mono hB.size);clear hb_w26;intro xv_ a9 hρ hsz hdf qx_ ql_ qk_ qlk_;replace s0 : a9.eval (.tmp 0) = .slice A zs.length c:=(hρ.inn 0 rfl).trans s0;replace s1 : a9.eval (.tmp 1) = .int .i64 p:=(hρ.inn 1 rfl).trans s1;replace s4 : a9.eval (.tmp 4) = .int .i64 0:=(hρ.inn 4 rfl).trans s4;replace s5 : a9.eval (.tmp 5) = .int .i64 b:=(hρ.inn 5 rfl).trans s5;replace s6 : a9.eval (.tmp 6) = .int .i64 ((k : Nat) : Int):=(hρ.inn 6 rfl).trans s6;replace s10 : a9.eval (.tmp 10) = .bool true:=(hρ.inn 10 rfl).trans s10;have s36 : a9.eval (.tmp 36) = .bool false:=(hρ.out 23 36 rfl (by rw [hs.size]; decide)).trans ((qx_ 23 (by decide) rfl rfl).trans (hr0 23 (by decide) rfl rfl));replace hs : St 39 a9:=⟨hsz.trans hs.size,hdf.trans hs.nodef⟩
    clear hρ hsz hdf qx_ ql_ qk_ qlk_;refine hK12 _ _ ?_;refine Av s36 ?_;refine wp_skip ?_;refine hK11 _ _ ?_;refine Wr (Qv hs (Ag rfl s6 ?_));intro a10 p10;refine Qv p10.s (Dh (r:=((k + 1 : Nat) : Int)) rfl p10.v rfl (by omega) (by omega) ?_);intro a11 p11;refine Qv p11.s (Aj rfl p11.v ?_);intro a12 p12;refine Wn ?_;have kc9:=(((Kps.nil a9).u p10).u p11).u p12;replace s0:=kc9.k s0;replace s1:=kc9.k s1;replace s4:=kc9.k s4;replace s5:=kc9.k s5;replace s6:=p12.v;replace s10:=kc9.k s10;replace s36:=kc9.k s36;refine show _ ∧ _ from ⟨⟨k + 1,b,p12.s,s0,s1,s4,s5,s6,hB,by omega,lbTo_c hlt hb hp⟩,?_⟩
    show zs.length - (intOf (a12.eval (.tmp 6))).toNat < zs.length - (intOf (a4.eval (.tmp 6))).toNat;rw [s6,mu7];simp only [intOf];omega
  replace s10:=Vb s10 (Df hc10);refine Av s10 ?_;refine wp_exit ?_;refine hK3 _ _ ?_;refine Wq fun K27 hK27=>Wr (Qv p8.s (Ag rfl s5 ?_))
  intro a9 p9;refine Qv p9.s (Aj rfl p9.v ?_);intro a10 p10;refine Wn ?_;replace s4:=p10.v;refine hK27 _ _ ?_;refine wp_ret ?_
  try dsimp only [Exit.then,Exit.inBlock]
  refine ret1 p10.s results119 (Bi s4) ?_;have hkz : k = zs.length:=by omega
  subst hkz;exact ⟨by rw [hb] at hv; rw [hv],hB⟩
 ·obtain ⟨m,rfl⟩:=Int.eq_ofNat_of_zero_le (show 0 ≤ b by omega);refine Wq fun K28 hK28=>?_;refine Wq fun K29 hK29=>Wr (Qv hs (Ag rfl s6 ?_))
  intro a5 p5;refine Qv p5.s (Ag rfl (p5.k s0) ?_);intro a6 p6;refine Qv p6.s (Dx (e:=_) rfl underlying28 p6.v ?_);intro a7 p7;refine Qv p7.s (Cx rfl (p7.k (p6.k p5.v)) p7.v ?_);intro a8 p8;refine Wn ?_;have kc4:=((((Kps.nil a4).u p5).u p6).u p7).u p8;replace s0:=kc4.k s0;replace s1:=kc4.k s1;replace s4:=kc4.k s4;replace s5:=kc4.k s5;replace s6:=kc4.k s6;replace s10:=p8.v;refine hK29 _ _ ?_;by_cases hc30 : ((k : Nat) : Int) < ((zs.length : Nat) : Int)
  ·replace s10:=Vb s10 (Dt hc30);refine Bb s10 ?_;refine wp_skip ?_;refine hK28 _ _ ?_;refine Wq fun K31 hK31=>?_;refine wp_block ?_;refine Wq fun K32 hK32=>?_;have hlt : k < zs.length:=by omega
   have hml : m < zs.length:=lbTo_lt hk hb (by omega);have hs:=p8.s;by_cases hp : zs[k].f1 < p
   ·have hlt : k < zs.length:=by omega
    have hml : m < zs.length:=lbTo_lt hk hb (by omega);obtain ⟨b37,o38,hA39,hl_hc40,hc40⟩:=Rd.get Be (hr_z.below hB) rfl (i:=k) (by omega);obtain ⟨b41,o42,hA43,hl_hc44,hc44⟩:=Rd.get Be (hr_z.below hB) rfl (i:=k) (by omega);obtain ⟨b45,o46,hA47,hl_hc48,hc48⟩:=Rd.get Be (hr_z.below hB) rfl (i:=m) (by omega);refine Bx (n:=39) [] [] [] (fun k_ v_ _wx=>match k_ with | 0=>v_ = .slice A zs.length c | 1=>v_ = .int .i64 ((k : Nat) : Int) | 2=>v_ = .pointer (some ⟨b37,o38 + k * 4,none⟩) | 3=>v_ = .pointer (some ⟨b37,o38 + k * 4 + 1,none⟩) | 4=>v_ = .int .i64 (zs[k].f1) | 5=>v_ = .int .i64 p | 6=>v_ = .bool true | 7=>v_ = .bool true | 8=>v_ = .int .i64 ((m : Nat) : Int) | 9=>v_ = .bool false | 10=>v_ = .bool false | 11=>v_ = .slice A zs.length c | 12=>v_ = .int .i64 ((k : Nat) : Int) | 13=>v_ = .pointer (some ⟨b41,o42 + k * 4,none⟩) | 14=>v_ = .pointer (some ⟨b41,o42 + k * 4 + 1,none⟩) | 15=>v_ = .int .i64 (zs[k].f1) | 16=>v_ = .slice A zs.length c | 17=>v_ = .int .i64 ((m : Nat) : Int) | 18=>v_ = .pointer (some ⟨b45,o46 + m * 4,none⟩) | 19=>v_ = .pointer (some ⟨b45,o46 + m * 4 + 1,none⟩) | 20=>v_ = .int .i64 (zs[m].f1) | 21=>v_ = .bool (decide (zs[k].f1 < zs[m].f1)) | 22=>v_ = .bool (decide (zs[k].f1 < zs[m].f1)) | 23=>v_ = .bool (decide (zs[k].f1 < zs[m].f1)) | _=>True) (by kernel_rfl) (by kernel_rfl) (by kernel_rfl) (by kernel_rfl) hs.size ?_ ?_ ?_
    ·intro i v wa wb hb hr;rcases i with _ | _ | _ | _ | _ | _ | _ | _ | _ | _ | _ | _ | _ | _ | _ | _ | _ | _ | _ | _ | _ | _ | _ | _ | i
     ·exact hr
     ·exact hr
     ·exact hr
     ·exact hr
     ·exact hr
     ·exact hr
     ·exact hr
     ·exact hr
     ·exact hr
     ·exact hr
     ·exact hr
     ·exact hr
     ·exact hr
     ·exact hr
     ·exact hr
     ·exact hr
     ·exact hr
     ·exact hr
     ·exact hr
     ·exact hr
     ·exact hr
     ·exact hr
     ·exact hr
     ·exact hr
     ·trivial
    ·refine Ai rfl rfl ?_ (Ai rfl rfl ?_ (Ai rfl rfl ?_ (Ai rfl rfl ?_ (Ai rfl rfl ?_ (Ai rfl rfl ?_ (Ai rfl rfl ?_ (Ai rfl rfl ?_ (Ar rfl 7 true 20 rfl rfl rfl (fun v w h=>h) ?_ (Ar rfl 7 true 20 rfl rfl rfl (fun v w h=>h) ?_ (Ar rfl 7 true 20 rfl rfl rfl (fun v w h=>h) ?_ (Ar rfl 10 false 23 rfl rfl rfl (fun v w h=>h) ?_ (Ar rfl 10 false 23 rfl rfl rfl (fun v w h=>h) ?_ (Ar rfl 10 false 23 rfl rfl rfl (fun v w h=>h) ?_ (Ar rfl 10 false 23 rfl rfl rfl (fun v w h=>h) ?_ (Ar rfl 10 false 23 rfl rfl rfl (fun v w h=>h) ?_ (Ar rfl 10 false 23 rfl rfl rfl (fun v w h=>h) ?_ (Ar rfl 10 false 23 rfl rfl rfl (fun v w h=>h) ?_ (Ar rfl 10 false 23 rfl rfl rfl (fun v w h=>h) ?_ (Ar rfl 10 false 23 rfl rfl rfl (fun v w h=>h) ?_ (Ar rfl 10 false 23 rfl rfl rfl (fun v w h=>h) ?_ (Ar rfl 10 false 23 rfl rfl rfl (fun v w h=>h) ?_ (Ar rfl 7 true 20 rfl rfl rfl (fun v w h=>h) ?_ (Ai rfl rfl ?_ (Dm))))))))))))))))))))))))
     ·intro xv_ wx ρ hρ hwx hd K hK;have e0 : ρ (.tmp 0) = .slice A zs.length c:=(hρ.inn 0 rfl).trans s0;refine Ag rfl e0 ?_;exact Hk hK
     ·intro xv_ wx ρ hρ hwx hd K hK;have e6 : ρ (.tmp 6) = .int .i64 ((k : Nat) : Int):=(hρ.inn 6 rfl).trans s6;refine Ag rfl e6 ?_;exact Hk hK
     ·intro xv_ wx ρ hρ hwx hd K hK;have e13:=(O2 hρ hs 0 13).trans (hd 0 rfl);have e14:=(O2 hρ hs 1 14).trans (hd 1 rfl);refine Cg (r:=o38 + k * 4) (k:=k) rfl (e13.trans (Bu hA39)) e14 underlying28 sizeOf47 (by omega) rfl ?_;exact Hk hK
     ·intro xv_ wx ρ hρ hwx hd K hK;have e15:=(O2 hρ hs 2 15).trans (hd 2 rfl);refine Af (r:=o38 + k * 4 + 1) rfl e15 underlying47 rfl sizeOf3 rfl rfl ?_;exact Hk hK
     ·intro xv_ wx ρ hρ hwx hd K hK;have e16:=(O2 hρ hs 3 16).trans (hd 3 rfl);have hc40:=Cp hc40 hwx hl_hc40;refine Al rfl e16 isAgg3 (by first | exact hc40 1 _ (by decide) rfl | (rw [Nat.add_assoc]; exact hc40 1 _ (by decide) rfl)) ?_;exact Hk hK
     ·intro xv_ wx ρ hρ hwx hd K hK;have e1 : ρ (.tmp 1) = .int .i64 p:=(hρ.inn 1 rfl).trans s1;refine Ag rfl e1 ?_;exact Hk hK
     ·intro xv_ wx ρ hρ hwx hd K hK;have e17:=(O2 hρ hs 4 17).trans (hd 4 rfl);have e18:=(O2 hρ hs 5 18).trans (hd 5 rfl);refine Cx rfl e17 e18 ?_;exact hK _ _ Br (congrArg Value.bool (Dt hp))
     ·intro xv_ wx ρ hρ hwx hd K hK;have e19:=(O2 hρ hs 6 19).trans (hd 6 rfl);refine Ag rfl e19 ?_;exact Hk hK
     ·intro xv_ wx ρ hρ hwx hd K hK;have e5 : ρ (.tmp 5) = .int .i64 ((m : Nat) : Int):=(hρ.inn 5 rfl).trans s5;refine Ag rfl e5 ?_;exact Hk hK
     ·intro xv_ wx ρ hρ hwx hd K hK;have e21:=(O2 hρ hs 8 21).trans (hd 8 rfl);refine Cx rfl e21 ((hρ.cst _)) ?_;exact hK _ _ Br (congrArg Value.bool (Df (by omega)))
     ·intro xv_ wx ρ hρ hwx hd K hK;have e22:=(O2 hρ hs 9 22).trans (hd 9 rfl);refine Ag rfl e22 ?_;exact Hk hK
     ·intro xv_ wx ρ hρ hwx hd K hK;have e0 : ρ (.tmp 0) = .slice A zs.length c:=(hρ.inn 0 rfl).trans s0;refine Ag rfl e0 ?_;exact Hk hK
     ·intro xv_ wx ρ hρ hwx hd K hK;have e6 : ρ (.tmp 6) = .int .i64 ((k : Nat) : Int):=(hρ.inn 6 rfl).trans s6;refine Ag rfl e6 ?_;exact Hk hK
     ·intro xv_ wx ρ hρ hwx hd K hK;have e24:=(O2 hρ hs 11 24).trans (hd 11 rfl);have e25:=(O2 hρ hs 12 25).trans (hd 12 rfl);refine Cg (r:=o42 + k * 4) (k:=k) rfl (e24.trans (Bu hA43)) e25 underlying28 sizeOf47 (by omega) rfl ?_;exact Hk hK
     ·intro xv_ wx ρ hρ hwx hd K hK;have e26:=(O2 hρ hs 13 26).trans (hd 13 rfl);refine Af (r:=o42 + k * 4 + 1) rfl e26 underlying47 rfl sizeOf3 rfl rfl ?_;exact Hk hK
     ·intro xv_ wx ρ hρ hwx hd K hK;have e27:=(O2 hρ hs 14 27).trans (hd 14 rfl);have hc44:=Cp hc44 hwx hl_hc44;refine Al rfl e27 isAgg3 (by first | exact hc44 1 _ (by decide) rfl | (rw [Nat.add_assoc]; exact hc44 1 _ (by decide) rfl)) ?_;exact Hk hK
     ·intro xv_ wx ρ hρ hwx hd K hK;have e0 : ρ (.tmp 0) = .slice A zs.length c:=(hρ.inn 0 rfl).trans s0;refine Ag rfl e0 ?_;exact Hk hK
     ·intro xv_ wx ρ hρ hwx hd K hK;have e5 : ρ (.tmp 5) = .int .i64 ((m : Nat) : Int):=(hρ.inn 5 rfl).trans s5;refine Ag rfl e5 ?_;exact Hk hK
     ·intro xv_ wx ρ hρ hwx hd K hK;have e29:=(O2 hρ hs 16 29).trans (hd 16 rfl);have e30:=(O2 hρ hs 17 30).trans (hd 17 rfl);refine Cg (r:=o46 + m * 4) (k:=m) rfl (e29.trans (Bu hA47)) e30 underlying28 sizeOf47 (by omega) rfl ?_;exact Hk hK
     ·intro xv_ wx ρ hρ hwx hd K hK;have e31:=(O2 hρ hs 18 31).trans (hd 18 rfl);refine Af (r:=o46 + m * 4 + 1) rfl e31 underlying47 rfl sizeOf3 rfl rfl ?_;exact Hk hK
     ·intro xv_ wx ρ hρ hwx hd K hK;have e32:=(O2 hρ hs 19 32).trans (hd 19 rfl);have hc48:=Cp hc48 hwx hl_hc48;refine Al rfl e32 isAgg3 (by first | exact hc48 1 _ (by decide) rfl | (rw [Nat.add_assoc]; exact hc48 1 _ (by decide) rfl)) ?_;exact Hk hK
     ·intro xv_ wx ρ hρ hwx hd K hK;have e28:=(O2 hρ hs 15 28).trans (hd 15 rfl);have e33:=(O2 hρ hs 20 33).trans (hd 20 rfl);refine Cx rfl e28 e33 ?_;exact Hk hK
     ·intro xv_ wx ρ hρ hwx hd K hK;have e23:=(O2 hρ hs 10 23).trans (hd 10 rfl);have e34:=(O2 hρ hs 21 34).trans (hd 21 rfl);refine Bl rfl e23 e34 ?_;exact Hk hK
     ·intro xv_ wx ρ hρ hwx hd K hK;have e20:=(O2 hρ hs 7 20).trans (hd 7 rfl);have e35:=(O2 hρ hs 22 35).trans (hd 22 rfl);refine Ay rfl e20 e35 ?_;exact Hk hK
    ·intro x0_ w49 hb_w49 hr0;replace hB:=hB.trans (hb_w49.mono hB.size);clear hb_w49;intro xv_ a9 hρ hsz hdf qx_ ql_ qk_ qlk_;replace s0 : a9.eval (.tmp 0) = .slice A zs.length c:=(hρ.inn 0 rfl).trans s0;replace s1 : a9.eval (.tmp 1) = .int .i64 p:=(hρ.inn 1 rfl).trans s1;replace s4 : a9.eval (.tmp 4) = .int .i64 0:=(hρ.inn 4 rfl).trans s4;replace s5 : a9.eval (.tmp 5) = .int .i64 ((m : Nat) : Int):=(hρ.inn 5 rfl).trans s5;replace s6 : a9.eval (.tmp 6) = .int .i64 ((k : Nat) : Int):=(hρ.inn 6 rfl).trans s6;replace s10 : a9.eval (.tmp 10) = .bool true:=(hρ.inn 10 rfl).trans s10;have s36 : a9.eval (.tmp 36) = .bool (decide (zs[k].f1 < zs[m].f1)):=(hρ.out 23 36 rfl (by rw [hs.size]; decide)).trans ((qx_ 23 (by decide) rfl rfl).trans (hr0 23 (by decide) rfl rfl));replace hs : St 39 a9:=⟨hsz.trans hs.size,hdf.trans hs.nodef⟩
     clear hρ hsz hdf qx_ ql_ qk_ qlk_;refine hK32 _ _ ?_;by_cases hc : zs[k].f1 < zs[m].f1
     ·replace s36:=Vb s36 (Dt hc);refine Bb s36 ?_;refine Wr (Qv hs (Ag rfl s6 ?_));intro a10 p10;refine Qv p10.s (Aj rfl p10.v ?_);intro a11 p11;refine Wn ?_;replace s0:=p11.k (p10.k s0);replace s1:=p11.k (p10.k s1);replace s4:=p11.k (p10.k s4);replace s5:=p11.v;replace s6:=p11.k (p10.k s6);replace s10:=p11.k (p10.k s10);replace s36:=p11.k (p10.k s36);refine hK31 _ _ ?_;refine Wr (Qv p11.s (Ag rfl s6 ?_));intro a12 p12;refine Qv p12.s (Dh (r:=((k + 1 : Nat) : Int)) rfl p12.v rfl (by omega) (by omega) ?_);intro a13 p13;refine Qv p13.s (Aj rfl p13.v ?_);intro a14 p14;refine Wn ?_;have kc11:=(((Kps.nil a11).u p12).u p13).u p14;replace s0:=kc11.k s0;replace s1:=kc11.k s1;replace s4:=kc11.k s4;replace s5:=kc11.k s5;replace s6:=p14.v;replace s10:=kc11.k s10;replace s36:=kc11.k s36;refine show _ ∧ _ from ⟨⟨k + 1,((k : Nat) : Int),p14.s,s0,s1,s4,s5,s6,hB,by omega,lbTo_b hlt hb hml hp hc⟩,?_⟩
      show zs.length - (intOf (a14.eval (.tmp 6))).toNat < zs.length - (intOf (a4.eval (.tmp 6))).toNat;rw [s6,mu7];simp only [intOf];omega
     replace s36:=Vb s36 (Df hc);refine Av s36 ?_;refine wp_skip ?_;refine hK31 _ _ ?_;refine Wr (Qv hs (Ag rfl s6 ?_));intro a10 p10;refine Qv p10.s (Dh (r:=((k + 1 : Nat) : Int)) rfl p10.v rfl (by omega) (by omega) ?_);intro a11 p11;refine Qv p11.s (Aj rfl p11.v ?_);intro a12 p12;refine Wn ?_;have kc9:=(((Kps.nil a9).u p10).u p11).u p12;replace s0:=kc9.k s0;replace s1:=kc9.k s1;replace s4:=kc9.k s4;replace s5:=kc9.k s5;replace s6:=p12.v;replace s10:=kc9.k s10;replace s36:=kc9.k s36;refine show _ ∧ _ from ⟨⟨k + 1,((m : Nat) : Int),p12.s,s0,s1,s4,s5,s6,hB,by omega,lbTo_d hlt hb hml hc⟩,?_⟩
     show zs.length - (intOf (a12.eval (.tmp 6))).toNat < zs.length - (intOf (a4.eval (.tmp 6))).toNat;rw [s6,mu7];simp only [intOf];omega
   have hlt : k < zs.length:=by omega
   have hml : m < zs.length:=lbTo_lt hk hb (by omega);obtain ⟨b50,o51,hA52,hl_hc53,hc53⟩:=Rd.get Be (hr_z.below hB) rfl (i:=k) (by omega);refine Bx (n:=39) [] [] [] (fun k_ v_ _wx=>match k_ with | 0=>v_ = .slice A zs.length c | 1=>v_ = .int .i64 ((k : Nat) : Int) | 2=>v_ = .pointer (some ⟨b50,o51 + k * 4,none⟩) | 3=>v_ = .pointer (some ⟨b50,o51 + k * 4 + 1,none⟩) | 4=>v_ = .int .i64 (zs[k].f1) | 5=>v_ = .int .i64 p | 6=>v_ = .bool false | 7=>v_ = .bool false | 10=>v_ = undef | 23=>v_ = .bool false | _=>True) (by kernel_rfl) (by kernel_rfl) (by kernel_rfl) (by kernel_rfl) hs.size ?_ ?_ ?_
   ·intro i v wa wb hb hr;rcases i with _ | _ | _ | _ | _ | _ | _ | _ | _ | _ | _ | _ | _ | _ | _ | _ | _ | _ | _ | _ | _ | _ | _ | _ | i
    ·exact hr
    ·exact hr
    ·exact hr
    ·exact hr
    ·exact hr
    ·exact hr
    ·exact hr
    ·exact hr
    ·trivial
    ·trivial
    ·exact hr
    ·trivial
    ·trivial
    ·trivial
    ·trivial
    ·trivial
    ·trivial
    ·trivial
    ·trivial
    ·trivial
    ·trivial
    ·trivial
    ·trivial
    ·exact hr
    ·trivial
   ·refine Ai rfl rfl ?_ (Ai rfl rfl ?_ (Ai rfl rfl ?_ (Ai rfl rfl ?_ (Ai rfl rfl ?_ (Ai rfl rfl ?_ (Ai rfl rfl ?_ (Ai rfl rfl ?_ (Ao 7 true 20 rfl rfl rfl (fun v w h=>Or.inl h) (fun w=>trivial) (Ao 7 true 20 rfl rfl rfl (fun v w h=>Or.inl h) (fun w=>trivial) (Ao 7 true 20 rfl rfl rfl (fun v w h=>Or.inl h) (fun w=>rfl) (Ao 10 false 23 rfl rfl rfl (fun v w h=>Or.inr h) (fun w=>trivial) (Ao 10 false 23 rfl rfl rfl (fun v w h=>Or.inr h) (fun w=>trivial) (Ao 10 false 23 rfl rfl rfl (fun v w h=>Or.inr h) (fun w=>trivial) (Ao 10 false 23 rfl rfl rfl (fun v w h=>Or.inr h) (fun w=>trivial) (Ao 10 false 23 rfl rfl rfl (fun v w h=>Or.inr h) (fun w=>trivial) (Ao 10 false 23 rfl rfl rfl (fun v w h=>Or.inr h) (fun w=>trivial) (Ao 10 false 23 rfl rfl rfl (fun v w h=>Or.inr h) (fun w=>trivial) (Ao 10 false 23 rfl rfl rfl (fun v w h=>Or.inr h) (fun w=>trivial) (Ao 10 false 23 rfl rfl rfl (fun v w h=>Or.inr h) (fun w=>trivial) (Ao 10 false 23 rfl rfl rfl (fun v w h=>Or.inr h) (fun w=>trivial) (Ao 10 false 23 rfl rfl rfl (fun v w h=>Or.inr h) (fun w=>trivial) (Ao 7 true 20 rfl rfl rfl (fun v w h=>Or.inl h) (fun w=>trivial) (Ai rfl rfl ?_ (Dm))))))))))))))))))))))))
    ·intro xv_ wx ρ hρ hwx hd K hK;have e0 : ρ (.tmp 0) = .slice A zs.length c:=(hρ.inn 0 rfl).trans s0;refine Ag rfl e0 ?_;exact Hk hK
    ·intro xv_ wx ρ hρ hwx hd K hK;have e6 : ρ (.tmp 6) = .int .i64 ((k : Nat) : Int):=(hρ.inn 6 rfl).trans s6;refine Ag rfl e6 ?_;exact Hk hK
    ·intro xv_ wx ρ hρ hwx hd K hK;have e13:=(O2 hρ hs 0 13).trans (hd 0 rfl);have e14:=(O2 hρ hs 1 14).trans (hd 1 rfl);refine Cg (r:=o51 + k * 4) (k:=k) rfl (e13.trans (Bu hA52)) e14 underlying28 sizeOf47 (by omega) rfl ?_;exact Hk hK
    ·intro xv_ wx ρ hρ hwx hd K hK;have e15:=(O2 hρ hs 2 15).trans (hd 2 rfl);refine Af (r:=o51 + k * 4 + 1) rfl e15 underlying47 rfl sizeOf3 rfl rfl ?_;exact Hk hK
    ·intro xv_ wx ρ hρ hwx hd K hK;have e16:=(O2 hρ hs 3 16).trans (hd 3 rfl);have hc53:=Cp hc53 hwx hl_hc53;refine Al rfl e16 isAgg3 (by first | exact hc53 1 _ (by decide) rfl | (rw [Nat.add_assoc]; exact hc53 1 _ (by decide) rfl)) ?_;exact Hk hK
    ·intro xv_ wx ρ hρ hwx hd K hK;have e1 : ρ (.tmp 1) = .int .i64 p:=(hρ.inn 1 rfl).trans s1;refine Ag rfl e1 ?_;exact Hk hK
    ·intro xv_ wx ρ hρ hwx hd K hK;have e17:=(O2 hρ hs 4 17).trans (hd 4 rfl);have e18:=(O2 hρ hs 5 18).trans (hd 5 rfl);refine Cx rfl e17 e18 ?_;exact hK _ _ Br (congrArg Value.bool (Df hp))
    ·intro xv_ wx ρ hρ hwx hd K hK;have e19:=(O2 hρ hs 6 19).trans (hd 6 rfl);refine Ag rfl e19 ?_;exact Hk hK
    ·intro xv_ wx ρ hρ hwx hd K hK;have e20:=(O2 hρ hs 7 20).trans (hd 7 rfl);refine Bl rfl e20 ((hρ.cst _)) ?_;exact Hk hK
   ·intro x0_ w54 hb_w54 hr0;replace hB:=hB.trans (hb_w54.mono hB.size);clear hb_w54;intro xv_ a9 hρ hsz hdf qx_ ql_ qk_ qlk_;replace s0 : a9.eval (.tmp 0) = .slice A zs.length c:=(hρ.inn 0 rfl).trans s0;replace s1 : a9.eval (.tmp 1) = .int .i64 p:=(hρ.inn 1 rfl).trans s1;replace s4 : a9.eval (.tmp 4) = .int .i64 0:=(hρ.inn 4 rfl).trans s4;replace s5 : a9.eval (.tmp 5) = .int .i64 ((m : Nat) : Int):=(hρ.inn 5 rfl).trans s5;replace s6 : a9.eval (.tmp 6) = .int .i64 ((k : Nat) : Int):=(hρ.inn 6 rfl).trans s6;replace s10 : a9.eval (.tmp 10) = .bool true:=(hρ.inn 10 rfl).trans s10;have s36 : a9.eval (.tmp 36) = .bool false:=(hρ.out 23 36 rfl (by rw [hs.size]; decide)).trans ((qx_ 23 (by decide) rfl rfl).trans (hr0 23 (by decide) rfl rfl));replace hs : St 39 a9:=⟨hsz.trans hs.size,hdf.trans hs.nodef⟩
    clear hρ hsz hdf qx_ ql_ qk_ qlk_;refine hK32 _ _ ?_;refine Av s36 ?_;refine wp_skip ?_;refine hK31 _ _ ?_;refine Wr (Qv hs (Ag rfl s6 ?_));intro a10 p10;refine Qv p10.s (Dh (r:=((k + 1 : Nat) : Int)) rfl p10.v rfl (by omega) (by omega) ?_);intro a11 p11;refine Qv p11.s (Aj rfl p11.v ?_);intro a12 p12;refine Wn ?_;have kc9:=(((Kps.nil a9).u p10).u p11).u p12;replace s0:=kc9.k s0;replace s1:=kc9.k s1;replace s4:=kc9.k s4;replace s5:=kc9.k s5;replace s6:=p12.v;replace s10:=kc9.k s10;replace s36:=kc9.k s36;refine show _ ∧ _ from ⟨⟨k + 1,((m : Nat) : Int),p12.s,s0,s1,s4,s5,s6,hB,by omega,lbTo_c hlt hb hp⟩,?_⟩
    show zs.length - (intOf (a12.eval (.tmp 6))).toNat < zs.length - (intOf (a4.eval (.tmp 6))).toNat;rw [s6,mu7];simp only [intOf];omega
  replace s10:=Vb s10 (Df hc30);refine Av s10 ?_;refine wp_exit ?_;refine hK3 _ _ ?_;refine Wq fun K55 hK55=>Wr (Qv p8.s (Ag rfl s5 ?_))
  intro a9 p9;refine Qv p9.s (Aj rfl p9.v ?_);intro a10 p10;refine Wn ?_;replace s4:=p10.v;refine hK55 _ _ ?_;refine wp_ret ?_
  try dsimp only [Exit.then,Exit.inBlock]
  refine ret1 p10.s results119 (Bi s4) ?_;have hkz : k = zs.length:=by omega
  subst hkz;exact ⟨by rw [hb] at hv; rw [hv],hB⟩
end Go.Proofs.Ytoccapmoehdohaa
