/- Contracts on a recorder's parts: the index of the record that goes first. No condition. -/
import Derived.Test.YtoccapmoehdohaaRecordRow
import Derived.Test.YtoccapmoehdohaaFlow
namespace Go.Proofs.Ytoccapmoehdohaa
set_option linter.unusedSimpArgs false
set_option linter.unusedVariables false
open Go.RowKit _root_.Go.Proofs.Try
def Ct (zs : List Av) : Nat → Nat
 | 0=>0
 | k + 1=>if (zs.getD k default).f1 < (zs.getD (Ct zs k) default).f1 then k else Ct zs k
theorem leastTo_lt (zs : List Av) (h : 0 < zs.length) : ∀ k,k ≤ zs.length → Ct zs k < zs.length
 | 0,_=>h
 | k + 1,hk=>by
  unfold Ct
  split
  ·omega
  ·exact leastTo_lt zs h k (by omega)
theorem leastTo_yes {zs : List Av} {k m : Nat} (hk : k < zs.length) (hm : Ct zs k = m) (hl : m < zs.length) (h : zs[k].f1 < zs[m].f1) : Ct zs (k + 1) = k:=by
 unfold Ct;rw [hm,show zs.getD k default = zs[k] from by simp [hk],show zs.getD m default = zs[m] from by simp [hl],if_pos h]
theorem leastTo_no {zs : List Av} {k m : Nat} (hk : k < zs.length) (hm : Ct zs k = m) (hl : m < zs.length) (h : ¬ zs[k].f1 < zs[m].f1) : Ct zs (k + 1) = m:=by
 unfold Ct;rw [hm,show zs.getD k default = zs[k] from by simp [hk],show zs.getD m default = zs[m] from by simp [hl],if_neg h]
set_option maxRecDepth 100000 in
set_option maxHeartbeats 4000000 in
theorem leastRecord_any (A : Option Addr) (n c : Nat) (zs : List Av) (w : World) (hn : zs.length = n) (hm : n ≤ 1048577) (hr_z : Rd w 4 A n (zs.flatMap Bo)) :
  Calls Try.prog 112 #[.slice A n c] w fun e w'=>e = .returned (.int .i64 (Ct zs n : Nat)) ∧ Below w.heap.size w w':=by
 subst hn;refine enter 24 func112 rfl rfl (Nat.le_of_ble_eq_true rfl) ?_;intro a0 hs hargs;have s0 : a0.eval (.tmp 0) = .slice A zs.length c:=hargs 0 _ rfl;clear hargs;have hB : Below w.heap.size w w:=Below.refl _ _;refine Wq fun K1 hK1=>Wr (Qv hs (Am rfl rfl ?_))
 intro a1 p1;have s2 : a1.eval (.tmp 2) = .int .i64 0:=p1.v;refine Wn ?_;replace s0:=p1.k s0;refine hK1 _ _ ?_;refine Wq fun K2 hK2=>Wr (Qv p1.s (Am rfl rfl ?_))
 intro a2 p2;have s3 : a2.eval (.tmp 3) = .int .i64 0:=p2.v;refine Wn ?_;replace s0:=p2.k s0;replace s2:=p2.k s2;refine hK2 _ _ ?_;refine Wq fun K3 hK3=>?_;refine Wq fun K4 hK4=>Wr (Qv p2.s (Ag rfl s0 ?_))
 intro a3 p3;refine Qv p3.s (Dj (e:=_) rfl underlying28 p3.v ?_);intro a4 p4;refine Qv p4.s (Ag rfl rfl ?_);intro a5 p5;have s8 : a5.eval (.tmp 8) = .int .i64 0:=p5.v;refine Wn ?_;have kc2:=(((Kps.nil a2).u p3).u p4).u p5;replace s0:=kc2.k s0;replace s2:=kc2.k s2;replace s3:=kc2.k s3;replace s6:=p5.k (p4.k p3.v);replace s7:=p5.k p4.v;refine hK4 _ _ ?_;refine wp_block ?_;refine wp_loop (fun a wr=>∃ (k : Nat) (m : Nat),(St 24 a) ∧ (a.eval (.tmp 0) = .slice A zs.length c) ∧ (a.eval (.tmp 2) = .int .i64 0) ∧ (a.eval (.tmp 3) = .int .i64 ((m : Nat) : Int)) ∧ (a.eval (.tmp 6) = .slice A zs.length c) ∧ (a.eval (.tmp 7) = .int .i64 ((zs.length : Nat) : Int)) ∧ (a.eval (.tmp 8) = .int .i64 ((k : Nat) : Int)) ∧ (Below w.heap.size w wr) ∧ (k ≤ zs.length) ∧ (Ct zs k = m)) (fun a _=>zs.length - (intOf (a.eval (.tmp 8))).toNat) (⟨0,0,p5.s,s0,s2,s3,s6,s7,s8,hB,Nat.zero_le _,rfl⟩) ?_;intro a6 w6 hIv;obtain ⟨k,m,hs,s0,s2,s3,s6,s7,s8,hB,hk,hm⟩:=hIv;have mu7:=s8;refine Wq fun K8 hK8=>Wr (Qv hs (Ee rfl s8 s7 ?_))
 intro a7 p7;refine Wn ?_;replace s0:=p7.k s0;replace s2:=p7.k s2;replace s3:=p7.k s3;replace s6:=p7.k s6;replace s7:=p7.k s7;replace s8:=p7.k s8;replace s9:=p7.v;refine hK8 _ _ ?_;refine Wq fun K9 hK9=>?_;by_cases hc10 : ((k : Nat) : Int) < ((zs.length : Nat) : Int)
 ·replace s9:=Vb s9 (Dt hc10);refine Bk s9 ?_;refine wp_skip ?_;refine hK9 _ _ ?_;refine Wq fun K11 hK11=>?_;refine wp_block ?_;refine Wq fun K12 hK12=>?_;have hlt : k < zs.length:=by omega
  have hl : m < zs.length:=hm ▸ leastTo_lt zs (by omega) k hk;refine Wr (Qv p7.s (Ag rfl s8 ?_));intro a8 p8;obtain ⟨b13,o14,hA15,hl_hc16,hc16⟩:=Rd.get Bs (hr_z.below hB) rfl (i:=k) (by omega);refine Qv p8.s (Cn (r:=o14 + k * 4) (k:=k) rfl ((p8.k s6).trans (Cc hA15)) (p8.k s8) underlying28 sizeOf47 (by omega) rfl ?_);intro a9 p9;refine Qv p9.s (Dr (l:=Bo zs[k]) rfl p9.v isAgg47 sizeOf47 rfl (fun j u hu=>by rw [Nat.add_assoc]; exact hc16 j u (by have:=(List.getElem?_eq_some_iff.1 hu).1; exact this) hu) ?_);intro a10 p10;refine Qv p10.s ?_;refine Cq rfl zeroValue47 rfl ?_;intro q17 w18 N_q17;have g_q17 : GeB w.heap.size q17:=⟨Nat.le_trans hB.size N_q17.lo⟩
  replace hB:=Bc hB hB.size N_q17;have h_q17:=N_q17.here;clear N_q17;intro a11 p11;refine Qv p11.s (Am rfl (p11.k (p10.k (p9.k p8.v))) ?_);intro a12 p12;refine Bv rfl rfl ?_;refine Bj rfl (p12.k p11.v) (p12.k (p11.k p10.v)) sizeOf47 rfl rfl h_q17 rfl ?_;intro w19 W_w19;replace h_q17:=W_w19.here;replace hB:=Ak hB hB.size W_w19 g_q17.le;clear W_w19;refine Wn ?_;have kc7:=(((((Kps.nil a7).u p8).u p9).u p10).u p11).u p12;replace s0:=kc7.k s0;replace s2:=kc7.k s2;replace s3:=kc7.k s3;replace s6:=kc7.k s6;replace s7:=kc7.k s7;replace s8:=kc7.k s8;replace s9:=kc7.k s9;replace s5:=p12.k p11.v;replace s4:=p12.v;refine hK12 _ _ ?_;refine Wq fun K20 hK20=>?_;have hs:=p12.s;obtain ⟨b21,o22,hA23,hl_hc24,hc24⟩:=Rd.get Bs (hr_z.below hB) rfl (i:=m) (by omega);refine Cp (n:=24) [] [] [] (fun k_ v_ _wx=>match k_ with | 0=>v_ = .pointer (some ⟨q17,1,none⟩) | 1=>v_ = .int .i64 (zs[k].f1) | 2=>v_ = .slice A zs.length c | 3=>v_ = .int .i64 ((m : Nat) : Int) | 4=>v_ = .pointer (some ⟨b21,o22 + m * 4,none⟩) | 5=>v_ = .pointer (some ⟨b21,o22 + m * 4 + 1,none⟩) | 6=>v_ = .int .i64 (zs[m].f1) | 7=>v_ = .bool (decide (zs[k].f1 < zs[m].f1)) | _=>True) (by kernel_rfl) (by kernel_rfl) (by kernel_rfl) (by kernel_rfl) hs.size ?_ ?_ ?_
  ·intro i v wa wb hb hr;rcases i with _ | _ | _ | _ | _ | _ | _ | _ | i
   ·exact hr
   ·exact hr
   ·exact hr
   ·exact hr
   ·exact hr
   ·exact hr
   ·exact hr
   ·exact hr
   ·trivial
  ·refine Al rfl rfl ?_ (Al rfl rfl ?_ (Al rfl rfl ?_ (Al rfl rfl ?_ (Al rfl rfl ?_ (Al rfl rfl ?_ (Al rfl rfl ?_ (Al rfl rfl ?_ (Ej))))))))
   ·intro xv_ wx ρ hρ hwx hd K hK;have e5 : ρ (.tmp 5) = .pointer (some ⟨q17,0,none⟩):=(hρ.inn 5 rfl).trans s5;refine Ah (r:=1) rfl e5 underlying47 rfl sizeOf3 rfl rfl ?_;exact Hk hK
   ·intro xv_ wx ρ hρ hwx hd K hK;have e13:=(O2 hρ hs 0 13).trans (hd 0 rfl);have h_q17:=Ab h_q17 hwx;refine Ao rfl e13 isAgg3 (Aj h_q17 rfl) ?_;exact Hk hK
   ·intro xv_ wx ρ hρ hwx hd K hK;have e0 : ρ (.tmp 0) = .slice A zs.length c:=(hρ.inn 0 rfl).trans s0;refine Ag rfl e0 ?_;exact Hk hK
   ·intro xv_ wx ρ hρ hwx hd K hK;have e3 : ρ (.tmp 3) = .int .i64 ((m : Nat) : Int):=(hρ.inn 3 rfl).trans s3;refine Ag rfl e3 ?_;exact Hk hK
   ·intro xv_ wx ρ hρ hwx hd K hK;have e15:=(O2 hρ hs 2 15).trans (hd 2 rfl);have e16:=(O2 hρ hs 3 16).trans (hd 3 rfl);refine Cn (r:=o22 + m * 4) (k:=m) rfl (e15.trans (Cc hA23)) e16 underlying28 sizeOf47 (by omega) rfl ?_;exact Hk hK
   ·intro xv_ wx ρ hρ hwx hd K hK;have e17:=(O2 hρ hs 4 17).trans (hd 4 rfl);refine Ah (r:=o22 + m * 4 + 1) rfl e17 underlying47 rfl sizeOf3 rfl rfl ?_;exact Hk hK
   ·intro xv_ wx ρ hρ hwx hd K hK;have e18:=(O2 hρ hs 5 18).trans (hd 5 rfl);have hc24:=Dn hc24 hwx hl_hc24;refine Ao rfl e18 isAgg3 (by first | exact hc24 1 _ (by decide) rfl | (rw [Nat.add_assoc]; exact hc24 1 _ (by decide) rfl)) ?_;exact Hk hK
   ·intro xv_ wx ρ hρ hwx hd K hK;have e14:=(O2 hρ hs 1 14).trans (hd 1 rfl);have e19:=(O2 hρ hs 6 19).trans (hd 6 rfl);refine Ee rfl e14 e19 ?_;exact Hk hK
  ·intro x0_ w25 hb_w25 hr0;replace hB:=hB.trans (hb_w25.mono hB.size);clear hb_w25;intro xv_ a13 hρ hsz hdf qx_ ql_ qk_ qlk_;replace s0 : a13.eval (.tmp 0) = .slice A zs.length c:=(hρ.inn 0 rfl).trans s0;replace s2 : a13.eval (.tmp 2) = .int .i64 0:=(hρ.inn 2 rfl).trans s2;replace s3 : a13.eval (.tmp 3) = .int .i64 ((m : Nat) : Int):=(hρ.inn 3 rfl).trans s3;replace s4 : a13.eval (.tmp 4) = .int .i64 ((k : Nat) : Int):=(hρ.inn 4 rfl).trans s4;replace s5 : a13.eval (.tmp 5) = .pointer (some ⟨q17,0,none⟩):=(hρ.inn 5 rfl).trans s5;replace s6 : a13.eval (.tmp 6) = .slice A zs.length c:=(hρ.inn 6 rfl).trans s6;replace s7 : a13.eval (.tmp 7) = .int .i64 ((zs.length : Nat) : Int):=(hρ.inn 7 rfl).trans s7;replace s8 : a13.eval (.tmp 8) = .int .i64 ((k : Nat) : Int):=(hρ.inn 8 rfl).trans s8;replace s9 : a13.eval (.tmp 9) = .bool true:=(hρ.inn 9 rfl).trans s9;have s20 : a13.eval (.tmp 20) = .bool (decide (zs[k].f1 < zs[m].f1)):=(hρ.out 7 20 rfl (by rw [hs.size]; decide)).trans ((qx_ 7 (by decide) rfl rfl).trans (hr0 7 (by decide) rfl rfl));replace hs : St 24 a13:=⟨hsz.trans hs.size,hdf.trans hs.nodef⟩
   clear hρ hsz hdf qx_ ql_ qk_ qlk_;refine hK20 _ _ ?_;by_cases hcmp : zs[k].f1 < zs[m].f1
   ·replace s20:=Vb s20 (Dt hcmp);refine Bk s20 ?_;refine Wr (Qv hs (Ag rfl s4 ?_));intro a14 p14;refine Qv p14.s (Am rfl p14.v ?_);intro a15 p15;refine Wn ?_;replace s0:=p15.k (p14.k s0);replace s2:=p15.k (p14.k s2);replace s3:=p15.v;replace s4:=p15.k (p14.k s4);replace s5:=p15.k (p14.k s5);replace s6:=p15.k (p14.k s6);replace s7:=p15.k (p14.k s7);replace s8:=p15.k (p14.k s8);replace s9:=p15.k (p14.k s9);replace s20:=p15.k (p14.k s20);refine hK11 _ _ ?_;refine Wr (Qv p15.s (Dg (r:=((k + 1 : Nat) : Int)) rfl s8 rfl (by omega) (by omega) ?_));intro a16 p16;refine Qv p16.s (Ag rfl p16.v ?_);intro a17 p17;refine Wn ?_;replace s0:=p17.k (p16.k s0);replace s2:=p17.k (p16.k s2);replace s3:=p17.k (p16.k s3);replace s4:=p17.k (p16.k s4);replace s5:=p17.k (p16.k s5);replace s6:=p17.k (p16.k s6);replace s7:=p17.k (p16.k s7);replace s8:=p17.v;replace s9:=p17.k (p16.k s9);replace s20:=p17.k (p16.k s20);refine show _ ∧ _ from ⟨⟨k + 1,k,p17.s,s0,s2,s3,s6,s7,s8,hB,by omega,leastTo_yes hlt hm hl hcmp⟩,?_⟩
    show zs.length - (intOf (a17.eval (.tmp 8))).toNat < zs.length - (intOf (a6.eval (.tmp 8))).toNat;rw [s8,mu7];simp only [intOf];omega
   replace s20:=Vb s20 (Df hcmp);refine Ba s20 ?_;refine wp_skip ?_;refine hK11 _ _ ?_;refine Wr (Qv hs (Dg (r:=((k + 1 : Nat) : Int)) rfl s8 rfl (by omega) (by omega) ?_));intro a14 p14;refine Qv p14.s (Ag rfl p14.v ?_);intro a15 p15;refine Wn ?_;replace s0:=p15.k (p14.k s0);replace s2:=p15.k (p14.k s2);replace s3:=p15.k (p14.k s3);replace s4:=p15.k (p14.k s4);replace s5:=p15.k (p14.k s5);replace s6:=p15.k (p14.k s6);replace s7:=p15.k (p14.k s7);replace s8:=p15.v;replace s9:=p15.k (p14.k s9);replace s20:=p15.k (p14.k s20);refine show _ ∧ _ from ⟨⟨k + 1,m,p15.s,s0,s2,s3,s6,s7,s8,hB,by omega,leastTo_no hlt hm hl hcmp⟩,?_⟩
   show zs.length - (intOf (a15.eval (.tmp 8))).toNat < zs.length - (intOf (a6.eval (.tmp 8))).toNat;rw [s8,mu7];simp only [intOf];omega
 replace s9:=Vb s9 (Df hc10);refine Ba s9 ?_;refine wp_exit ?_;refine hK3 _ _ ?_;refine Wq fun K26 hK26=>Wr (Qv p7.s (Ag rfl s3 ?_))
 intro a8 p8;refine Qv p8.s (Am rfl p8.v ?_);intro a9 p9;refine Wn ?_;replace s2:=p9.v;refine hK26 _ _ ?_;refine wp_ret ?_;refine ret1 p9.s results112 s2 ⟨?_,hB⟩;have : k = zs.length:=by omega
 subst this;rw [hm]
end Go.Proofs.Ytoccapmoehdohaa
