/- Contracts: a record is kept, as values; what is kept. No condition. -/
import Derived.Test.YtoccapmoehdohaaKeep
import Derived.Test.YtoccapmoehdohaaKeepLaw
import Derived.Test.YtoccapmoehdohaaFlow
import Derived.Test.YtoccapmoehdohaaFlowMem
import Derived.Test.YtoccapmoehdohaaFlowDel
import Derived.Test.YtoccapmoehdohaaWaitingRow
namespace Go.Proofs.Ytoccapmoehdohaa
set_option linter.unusedSimpArgs false
set_option linter.unusedVariables false
open Go.RowKit _root_.Go.Proofs.Try
theorem kres_v {base : Nat} {w : World} {room : Int} {p : List Av × List Int} {v : Value} (h : KRes base w room p v) : ∃ (A : Option Addr) (c : Nat) (B : Option Addr) (d : Nat),v = .agg #[.int .i64 room,.slice A p.1.length c,.slice B p.2.length d] ∧ w.ownsRow base 47 4 (.slice A p.1.length c) p.1.length (p.1.flatMap Bo) ∧ w.ownsRow base 3 1 (.slice B p.2.length d) p.2.length (p.2.flatMap cI):=by
 obtain ⟨A,n,c,B,m,d,hv,rfl,rfl,h1,h2⟩:=h;exact ⟨A,c,B,d,hv,h1,h2⟩
theorem keepRecord_v (room : Int) (A B : Option Addr) (n cp m dp : Nat) (zs : List Av) (ds : List Int) (x : Av) (w : World) (hn : zs.length = n) (hb : n ≤ 1048576) (_hnc_z : n ≤ cp) (hT : ∀ z ∈ zs,Txt z.f3) (hr_z : Rd w 4 A n (zs.flatMap Bo)) (hnn_z : A = none → n = 0 ∧ cp = 0) (hm : ds.length = m) (hbm : m ≤ 1048576) (hnn_d : B = none → m = 0 ∧ dp = 0) (hr_d : Rd w 1 B m (ds.flatMap cI)) (hTx : Txt x.f3) :
  Calls Try.prog 91 #[.agg #[.int .i64 room,.slice A n cp,.slice B m dp],.agg #[.int .i64 x.f0,.int .i64 x.f1,.int .i64 x.f2,.string ⟨(x.f3).toArray⟩]] w fun e w'=>∃ A c B d,e = .returned (.agg #[.int .i64 room,.slice A (Ed room zs ds x).1.length c,.slice B (Ed room zs ds x).2.length d]) ∧ w'.ownsRow w.heap.size 47 4 (.slice A (Ed room zs ds x).1.length c) (Ed room zs ds x).1.length ((Ed room zs ds x).1.flatMap Bo) ∧ w'.ownsRow w.heap.size 3 1 (.slice B (Ed room zs ds x).2.length d) (Ed room zs ds x).2.length ((Ed room zs ds x).2.flatMap cI) ∧ Below w.heap.size w w' :=
 (keepRecord_any room A B n cp m dp zs ds x w hn hb _hnc_z hT hr_z hnn_z hm hbm hnn_d hr_d hTx).mono fun _ _ ⟨v,he,hk,hb⟩=>by
  obtain ⟨A,c,B,d,hv,h1,h2⟩:=kres_v hk;exact ⟨A,c,B,d,by rw [he,hv],h1,h2,hb⟩
theorem keepR_txt {room : Int} {zs : List Av} {ds : List Int} {x : Av} (hT : ∀ z ∈ zs,Txt z.f3) (_hx : Txt x.f3) : ∀ z ∈ (Ed room zs ds x).1,Txt z.f3:=by
 unfold Ed
 split
 ·rename_i h
  rw [Bool.and_eq_true] at h;obtain ⟨r1,r2,r3,r4,_⟩:=rcOk_parts h.2;intro z hz;obtain ⟨k,hk,rfl⟩:=List.mem_iff_getElem.1 hz;have:=(Ey (recOk_at r3 hk hk)).2.2.2;unfold Txt;omega
 ·exact hT
set_option maxRecDepth 100000 in
set_option maxHeartbeats 4000000 in
theorem deleteWaiting_any {base : Nat} {A : Option Addr} {n c k : Nat} {zs : List Az} (w : World) (hn : zs.length = n) (hk : k < n) (hm : n ≤ 1048577) (o_z : w.ownsRow base 45 5 (.slice A n c) n (zs.flatMap Ax)) :
  Calls Try.prog 44 #[.slice A n c,.int .i64 ((k : Nat) : Int),.int .i64 ((k + 1 : Nat) : Int)] w fun e w'=>e = .returned (.slice A (n - 1) c) ∧ w'.ownsRow base 45 5 (.slice A (n - 1) c) (n - 1) ((zs.eraseIdx k).flatMap Ax) ∧ w.grownBy w' (A.map (·.block)):=by
 subst hn;obtain ⟨g,rfl⟩:=own_some o_z (by omega);refine enter 33 func44 rfl rfl (Nat.le_of_ble_eq_true rfl) ?_;intro a0 hs hargs;have s0 : a0.eval (.tmp 0) = .slice (some ⟨g,0,none⟩) zs.length c:=hargs 0 _ rfl;have s1 : a0.eval (.tmp 1) = .int .i64 ((k : Nat) : Int):=hargs 1 _ rfl;have s2 : a0.eval (.tmp 2) = .int .i64 ((k + 1 : Nat) : Int):=hargs 2 _ rfl;clear hargs;have hnc:=(Bw o_z).1;refine Wq fun K1 hK1=>Wr (Qv hs (Am rfl rfl ?_))
 intro a1 p1;have s6 : a1.eval (.tmp 6) = .slice none 0 0:=p1.v;refine Wn ?_;replace s0:=p1.k s0;replace s1:=p1.k s1;replace s2:=p1.k s2;refine hK1 _ _ ?_;refine Wq fun K2 hK2=>Wr (Qv p1.s (Ag rfl s0 ?_))
 intro a2 p2;refine Qv p2.s (Ag rfl (p2.k s1) ?_);intro a3 p3;refine Qv p3.s (Ag rfl (p3.k (p2.k s2)) ?_);intro a4 p4;refine Qv p4.s (Ag rfl (p4.k (p3.k (p2.k s0))) ?_);intro a5 p5;refine Qv p5.s (Dj (e:=_) rfl underlying26 p5.v ?_);intro a6 p6;refine Qv p6.s ?_;refine g_slice3 (i:=k) (j:=k + 1) (m:=zs.length) rfl (p6.k (p5.k (p4.k (p3.k p2.v)))) (p6.k (p5.k (p4.k p3.v))) (p6.k (p5.k p4.v)) p6.v underlying26 sizeOf45 (by omega) (by omega) hnc ?_;intro vs;intro a7 p7;refine Wn ?_;have kc1:=((((((Kps.nil a1).u p2).u p3).u p4).u p5).u p6).u p7;replace s0:=kc1.k s0;replace s1:=kc1.k s1;replace s2:=kc1.k s2;replace s6:=kc1.k s6;refine hK2 _ _ ?_;refine Wq fun K3 hK3=>?_;refine Wq fun K4 hK4=>Wr (Qv p7.s (Ag rfl s1 ?_))
 intro a8 p8;refine Qv p8.s (Ag rfl (p8.k s2) ?_);intro a9 p9;refine Qv p9.s (g_eql rfl (p9.k p8.v) p9.v ?_);intro a10 p10;have s16:=Vb p10.v (Df (by omega));refine Wn ?_;have kc7:=(((Kps.nil a7).u p8).u p9).u p10;replace s0:=kc7.k s0;replace s1:=kc7.k s1;replace s2:=kc7.k s2;replace s6:=kc7.k s6;refine hK4 _ _ ?_;refine Ba s16 ?_;refine wp_skip ?_;refine hK3 _ _ ?_;refine Wq fun K5 hK5=>Wr (Qv p10.s (Ag rfl s0 ?_))
 intro a11 p11;refine Qv p11.s (Dj (e:=_) rfl underlying26 p11.v ?_);intro a12 p12;refine Qv p12.s (Am rfl p12.v ?_);intro a13 p13;refine Wn ?_;have kc10:=(((Kps.nil a10).u p11).u p12).u p13;replace s0:=kc10.k s0;replace s1:=kc10.k s1;replace s2:=kc10.k s2;replace s6:=kc10.k s6;replace s7:=p13.v;refine hK5 _ _ ?_;refine Wq fun K6 hK6=>?_;have hs:=p13.s;obtain ⟨A8,hA_v9⟩ : ∃ x_,x_ = tailA 5 (some ⟨g,0,none⟩) c (k + 1):=⟨_,rfl⟩
 have T_v9 : Tail 5 (some ⟨g,0,none⟩) A8 zs.length c (k + 1):=hA_v9 ▸ tailA_of 5 (some ⟨g,0,none⟩) zs.length c (k + 1) hnc;refine Cp (n:=33) [7] [6] [(7,6)] (fun k_ v_ _wx=>match k_ with | 0=>v_ = .slice (some ⟨g,0,none⟩) zs.length c | 1=>v_ = .int .i64 ((k : Nat) : Int) | 2=>v_ = .slice (some ⟨g,0,none⟩) k c | 3=>v_ = .slice (some ⟨g,0,none⟩) zs.length c | 4=>v_ = .int .i64 ((k + 1 : Nat) : Int) | 5=>v_ = .slice A8 (zs.length - (k + 1)) (c - (k + 1)) | _=>True) (by kernel_rfl) (by kernel_rfl) (by kernel_rfl) (by kernel_rfl) hs.size ?_ ?_ ?_
 ·intro i v wa wb hb hr;rcases i with _ | _ | _ | _ | _ | _ | _ | _ | i
  ·exact hr
  ·exact hr
  ·exact hr
  ·exact hr
  ·exact hr
  ·exact hr
  ·trivial
  ·trivial
  ·trivial
 ·refine Al rfl rfl ?_ (Al rfl rfl ?_ (Al rfl rfl ?_ (Al rfl rfl ?_ (Al rfl rfl ?_ (Al rfl rfl ?_ (Ev rfl (d_late rfl rfl ?_ (Ej))))))))
  ·intro xv_ wx ρ hρ hwx hd K hK;have e0 : ρ (.tmp 0) = .slice (some ⟨g,0,none⟩) zs.length c:=(hρ.inn 0 rfl).trans s0;refine Ag rfl e0 ?_;exact Hk hK
  ·intro xv_ wx ρ hρ hwx hd K hK;have e1 : ρ (.tmp 1) = .int .i64 ((k : Nat) : Int):=(hρ.inn 1 rfl).trans s1;refine Ag rfl e1 ?_;exact Hk hK
  ·intro xv_ wx ρ hρ hwx hd K hK;have e20:=(O2 hρ hs 0 20).trans (hd 0 rfl);have e21:=(O2 hρ hs 1 21).trans (hd 1 rfl);refine g_head rfl e20 e21 underlying26 sizeOf45 (by have:=hnc; omega) ?_;exact Hk hK
  ·intro xv_ wx ρ hρ hwx hd K hK;have e0 : ρ (.tmp 0) = .slice (some ⟨g,0,none⟩) zs.length c:=(hρ.inn 0 rfl).trans s0;refine Ag rfl e0 ?_;exact Hk hK
  ·intro xv_ wx ρ hρ hwx hd K hK;have e2 : ρ (.tmp 2) = .int .i64 ((k + 1 : Nat) : Int):=(hρ.inn 2 rfl).trans s2;refine Ag rfl e2 ?_;exact Hk hK
  ·intro xv_ wx ρ hρ hwx hd K hK;have e23:=(O2 hρ hs 3 23).trans (hd 3 rfl);have e24:=(O2 hρ hs 4 24).trans (hd 4 rfl);refine g_tailD rfl e23 e24 underlying26 sizeOf45 (by omega) rfl rfl hA_v9 ?_;exact Hk hK
  ·intro xv_ wx ρ hρ hwx hd;exact ⟨_,fun w'=>l_assign rfl rfl,trivial⟩
 ·intro x0_ w10 hb_w10 hr0;have hG : w.grownBy w10 (some g):=Er hb_w10;replace o_z:=Ac o_z hb_w10;clear hb_w10;intro op_ ho_ xv_ ρ hρ qx_ ql_ qk_;obtain rfl:=Option.some.inj ho_;clear ho_;have e22 : ρ (.tmp 22) = .slice (some ⟨g,0,none⟩) k c:=(hρ.out 2 22 rfl (by rw [hs.size]; decide) rfl).trans ((qx_ 2 (by decide) rfl rfl).trans (hr0 2 (by decide) rfl rfl));have e25 : ρ (.tmp 25) = .slice A8 (zs.length - (k + 1)) (c - (k + 1)):=(hρ.out 5 25 rfl (by rw [hs.size]; decide) rfl).trans ((qx_ 5 (by decide) rfl rfl).trans (hr0 5 (by decide) rfl rfl));refine g_append_shift Ax base (.agg #[.int .i64 0,.int .i64 0,.int .i64 0,.int .i64 0,.int .i64 0]) 5 40 zs rfl e22 e25 underlying26 infoWaiting Ay cWaiting_one rfl hk o_z T_v9 ?_;intro w8 o8 h8;replace o_z:=o8;replace hG:=Ck hG h8;clear e22 e25;clear hρ qx_ ql_ qk_;intro xv_ a14 hρ hsz hdf qx_ ql_ qk_ qlk_;have s0 : a14.eval (.tmp 0) = .slice (some ⟨g,0,none⟩) (zs.length - 1) c:=(hρ.out 7 0 rfl (by rw [hs.size]; decide)).trans ((qlk_ (7,6) (by simp)).trans (qk_ (6,_) (by simp)));replace s6 : a14.eval (.tmp 6) = .slice none 0 0:=(hρ.inn 6 rfl).trans s6;replace s7 : a14.eval (.tmp 7) = .int .i64 ((zs.length : Nat) : Int):=(hρ.inn 7 rfl).trans s7;replace hs : St 33 a14:=⟨hsz.trans hs.size,hdf.trans hs.nodef⟩
  clear hρ hsz hdf qx_ ql_ qk_ qlk_;refine hK6 _ _ ?_;refine Wq fun K11 hK11=>Wr (Qv hs (Ag rfl s0 ?_))
  intro a15 p15;refine Qv p15.s (Ag rfl (p15.k s0) ?_);intro a16 p16;refine Qv p16.s (Dj (e:=_) rfl underlying26 p16.v ?_);intro a17 p17;refine Qv p17.s (Ag rfl (p17.k (p16.k (p15.k s7))) ?_);intro a18 p18;refine Qv p18.s ?_;refine g_slice_behind (n:=zs.length - 1) (j:=zs.length) rfl (p18.k (p17.k (p16.k p15.v))) (p18.k p17.v) p18.v underlying26 sizeOf45 (by omega) (by omega) ?_;intro a19 p19;refine Bv rfl rfl ?_;refine g_clear_behind (base:=base) (xs:=(zs.eraseIdx k).flatMap Ax) (n:=zs.length - 1) (j:=zs.length) rfl p19.v underlying26 zeroValue45 rfl rfl (by omega) (by omega) o_z ?_;intro vc w9 o9 h9;replace o_z:=o9;replace hG:=Ck hG h9;refine Wn ?_;have kc14:=(((((Kps.nil a14).u p15).u p16).u p17).u p18).u p19;replace s0:=kc14.k s0;replace s6:=kc14.k s6;refine hK11 _ _ ?_;refine Wq fun K12 hK12=>Wr (Qv p19.s (Ag rfl s0 ?_))
  intro a20 p20;refine Qv p20.s (Am rfl p20.v ?_);intro a21 p21;refine Wn ?_;replace s6:=p21.v;refine hK12 _ _ ?_;refine wp_ret ?_
  try dsimp only [Exit.then,Exit.inBlock]
  refine ret1 p21.s results44 (Bx s6) ?_;exact ⟨rfl,o_z,hG⟩
end Go.Proofs.Ytoccapmoehdohaa
