/- An argument that is a board, or a waiting order: opened. No condition. -/
import Derived.Test.YtoccapmoehdohaaBdMark
import Derived.Test.YtoccapmoehdohaaOpen
namespace Go.Proofs.Ytoccapmoehdohaa
open Go.RowKit _root_.Go.Proofs.Try Go.ChangeShapes
def wfWaiting (r : Bt) : Prop:=I64 r.f0 ∧ I64 r.f1 ∧ I64 r.f2 ∧ I64 r.f3 ∧ I64 r.f4
theorem el_Waiting {H : Type} {enc : TypeId × Value → H} {w : World} {held : Bool} {fuel : Nat} {cs : List Value} {x : DataW H × List MemPlace}
  (h : DataW.trod enc Try.prog w 0 (fun _=>true) held fuel 77 cs = some x) : ∃ r,cs = Bd r ∧ wfWaiting r:=by
 obtain ⟨hlen,m,hf⟩:=Fd underlying77 h;have hC : Try.prog.cellsOf 77 = 5:=by kernel_rfl
 rw [hC] at hlen;obtain ⟨y0,e0⟩:=hf 0 3 0 1 (by kernel_rfl);obtain ⟨y1,e1⟩:=hf 1 73 1 4 (by kernel_rfl)
 match cs,hlen with
 | [c0,c1,c2,c3,c4],_ =>
  obtain ⟨a,ea,wa⟩:=Er underlying3 e0;obtain ⟨b,c,d,e,eb,wb,wc,wd,we⟩:=open_Order e1;simp [cI] at ea eb;obtain ⟨rfl,rfl,rfl,rfl⟩:=eb;subst ea;exact ⟨⟨a,b,c,d,e⟩,rfl,wa,wb,wc,wd,we⟩
theorem open_Waiting {H : Type} {enc : TypeId × Value → H} {w : World} {held : Bool} {fuel : Nat} {cs : List Value} {x : DataW H × List MemPlace}
  (h : DataW.trod enc Try.prog w 0 (fun _=>true) held fuel 77 cs = some x) :
  ∃ (r : Bt),cs = [.int .i64 r.f0,.int .i64 r.f1,.int .i64 r.f2,.int .i64 r.f3,.int .i64 r.f4]:=by
 obtain ⟨r,h1,_⟩:=el_Waiting h;exact ⟨r,h1⟩
theorem open_Board {H : Type} {enc : TypeId × Value → H} {w : World} {held : Bool} {fuel : Nat} {cs : List Value} {x : DataW H × List MemPlace}
  (h : DataW.trod enc Try.prog w 0 (fun _=>true) held fuel 62 cs = some x) :
  ∃ (S : BSl) (b : Bv),cs = [.int .i64 b.clk,.slice S.p.A S.p.n S.p.c,.bool b.safe,.slice S.l.A S.l.n S.l.c,.slice S.o.A S.o.n S.o.c,.slice S.d.A S.d.n S.d.c,.int .i64 b.room,.slice S.r.A S.r.n S.r.c,.slice S.x.A S.x.n S.x.c,.int .i64 b.made,.int .i64 b.taken,.slice S.q.A S.q.n S.q.c] ∧ RdL w S b ∧ BdL S ∧ ∀ z ∈ b.rs,Txt z.f3:=by
 obtain ⟨hlen,m,hf⟩:=Fd underlying62 h;have hC : Try.prog.cellsOf 62 = 12:=by kernel_rfl
 rw [hC] at hlen;obtain ⟨y0,e0⟩:=hf 0 3 0 1 (by kernel_rfl);obtain ⟨y1,e1⟩:=hf 1 24 1 1 (by kernel_rfl);obtain ⟨y2,e2⟩:=hf 2 4 2 1 (by kernel_rfl);obtain ⟨y3,e3⟩:=hf 3 55 3 1 (by kernel_rfl);obtain ⟨y4,e4⟩:=hf 4 56 4 1 (by kernel_rfl);obtain ⟨y5,e5⟩:=hf 5 57 5 1 (by kernel_rfl);obtain ⟨y6,e6⟩:=hf 6 60 6 3 (by kernel_rfl);obtain ⟨y7,e7⟩:=hf 7 3 9 1 (by kernel_rfl);obtain ⟨y8,e8⟩:=hf 8 3 10 1 (by kernel_rfl);obtain ⟨y9,e9⟩:=hf 9 24 11 1 (by kernel_rfl)
 match cs,hlen with
 | [c0,c1,c2,c3,c4,c5,c6,c7,c8,c9,c10,c11],_ =>
  obtain ⟨clk,q0,_⟩:=Er underlying3 e0;obtain ⟨A1,n1,d1,ps,q1,hn1,hc1,hm1,hr1,_⟩:=En cI I64 1 Fo underlying24 (by kernel_rfl) (by decide) (fun _ _ _ hh=>Er underlying3 hh) e1;obtain ⟨safe,q2⟩:=el_bool underlying4 e2;obtain ⟨A3,n3,d3,ls,q3,hn3,hc3,hm3,hr3,_⟩:=En Bw wfLimit 3 Cj underlying55 (by kernel_rfl) (by decide) (fun _ _ _ hh=>el_Limit hh) e3;obtain ⟨A4,n4,d4,os,q4,hn4,hc4,hm4,hr4,_⟩:=En Bd wfWaiting 5 Bk underlying56 (by kernel_rfl) (by decide) (fun _ _ _ hh=>el_Waiting hh) e4;obtain ⟨A5,n5,d5,ds,q5,hn5,hc5,hm5,hr5,_⟩:=En Ch wfDone 3 Dg underlying57 (by kernel_rfl) (by decide) (fun _ _ _ hh=>el_Done hh) e5;obtain ⟨room,A7,n7,d7,rs,A8,n8,d8,xs,q6,_,⟨hn7,hc7,hm7,hr7,hwf⟩,⟨hn8,hc8,hm8,hr8,_⟩⟩:=open_Recorder e6;obtain ⟨made,q9,_⟩:=Er underlying3 e7;obtain ⟨taken,q10,_⟩:=Er underlying3 e8;obtain ⟨A11,n11,d11,qs,q11,hn11,hc11,hm11,hr11,_⟩:=En cI I64 1 Fo underlying24 (by kernel_rfl) (by decide) (fun _ _ _ hh=>Er underlying3 hh) e9;simp [cI] at q0 q1 q2 q3 q4 q5 q6 q9 q10 q11;obtain ⟨rfl,rfl,rfl⟩:=q6;subst q0 q1 q2 q3 q4 q5 q9 q10 q11;exact ⟨⟨⟨A1,n1,d1⟩,⟨A3,n3,d3⟩,⟨A4,n4,d4⟩,⟨A5,n5,d5⟩,⟨A7,n7,d7⟩,⟨A8,n8,d8⟩,⟨A11,n11,d11⟩⟩,⟨clk,ps,safe,ls,os,ds,room,rs,xs,made,taken,qs⟩,rfl,
   ⟨⟨hr1,hn1⟩,⟨hr3,hn3⟩,⟨hr4,hn4⟩,⟨hr5,hn5⟩,⟨hr7,hn7⟩,⟨hr8,hn8⟩,⟨hr11,hn11⟩⟩,⟨Nat.le_trans hc1 hm1,Nat.le_trans hc3 hm3,Nat.le_trans hc4 hm4,Nat.le_trans hc5 hm5,Nat.le_trans hc7 hm7,Nat.le_trans hc8 hm8,Nat.le_trans hc11 hm11⟩,fun z hz=>(hwf z hz).2.2.2⟩
end Go.Proofs.Ytoccapmoehdohaa
